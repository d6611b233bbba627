/- The walk through errandlaw31's DepsTells (printed by gen_tells.py). -/
import Derived.Test.YthelkkbjflohgaaHk
import Derived.Deep.RegionHeld3
namespace Go.Proofs.Ythelkkbjflohgaa.Gr
theorem run_len {α : Type} [DecidableEq α] {lt : α → α → Bool} {l : List (α × α)} {s o : List α} {b : Bool} (h : Run lt l s o b) : ∀ {t : List α}, (∀ x ∈ s, x ∈ t) → o.length ≤ t.length := by
  induction h with
  | none => intro t _; exact Nat.zero_le _
  | stuck => intro t _; exact Nat.zero_le _
  | @ok s s' o x h1 h2 _ ih =>
    intro t ht
    have hx := ht x h1.1
    have h3 := ih (t := t.erase x) (fun y hy => by
      have := (h2 y).1 hy
      exact (List.mem_erase_of_ne this.2).2 (ht y this.1))
    have h4 := List.length_erase_of_mem hx
    have h5 := List.length_pos_of_mem hx
    simp only [List.length_cons]
    omega
  | no => intro t _; exact Nat.zero_le _
end Go.Proofs.Ythelkkbjflohgaa.Gr
namespace Go.Proofs.Ythelkkbjflohgaa.Ds
open Go.RowKit Ut Gr Go.Maps
theorem keep2 {g : Nat} {a b : Value} {w w' : World} (h : g < w.heap.size ∧ w.cell? ⟨g, 0, none⟩ = some a ∧ w.cell? ⟨g, 1, none⟩ = some b) (hB : Below w.heap.size w w') : g < w'.heap.size ∧ w'.cell? ⟨g, 0, none⟩ = some a ∧ w'.cell? ⟨g, 1, none⟩ = some b :=
  ⟨Nat.lt_of_lt_of_le h.1 hB.size, (hB.cell (p := ⟨g, 0, none⟩) h.1).trans h.2.1, (hB.cell (p := ⟨g, 1, none⟩) h.1).trans h.2.2⟩
theorem givesL {w : World} {l : List ByteArray} {e : Ending} {w' : World} (h : GivesS w l e w') : GivesL w l e w' := by
  obtain ⟨v, rfl, hO, hB⟩ := h
  exact ⟨v, rfl, hO.strs, hB⟩
theorem short_of {l : List (ByteArray × ByteArray)} (h : ∀ e ∈ l, e.1.size ≤ 30 ∧ e.2.size ≤ 30) : Short l := fun e he => ⟨by have := (h e he).1; omega, by have := (h e he).2; omega⟩
set_option maxHeartbeats 8000000 in
set_option maxRecDepth 100000 in
theorem tells_any {w : World} {v u : Value} {l : List (ByteArray × ByteArray)} {names : List ByteArray} (p q : ByteArray) (hl : Edgs w v l) (hs : Strs w u names) :
    Calls Try.prog 3 #[v, u, .agg #[.string p, .string q]] w fun e w' => e = .returned (.bool true) ∧ Below w.heap.size w w' := by
  have FF := Lib.hid (few_any (w := w.alloc (.cells #[.string p, .string q] 25)) (hl.below (Below.next_alloc (Below.refl _ _) _)) (hs.below (Below.next_alloc (Below.refl _ _) _)))
  have HL := Lib.hid hl
  have HS := Lib.hid hs
  clear hl hs
  cases hf : fewB l names
  · rw [hf] at FF
    clear hf
    go_enter Try.func3, Try.ntmps3
    go_wp2_with (first
      | (go_at_call 7; (with_reducible refine FF.out.mono ?_); rintro e w1 ⟨rfl, hB1⟩; have b1 := Lib.hid (next_allocs hB1); clear hB1)
      | (go_at_call 8; (with_reducible refine (awake_any _).mono ?_); rintro e w2 ⟨rfl, hB2⟩; have b2 := Lib.hid (Below.next b1.out hB2); clear hB2))
    go_ret
    exact ⟨rfl, b2.out⟩
  rw [hf] at FF
  obtain ⟨hn, hm, hsz, hnz⟩ := few_iff.1 hf
  clear hf
  by_cases hp : p.size ≤ 30
  rotate_left
  · have hp2 : (30 : Int) < (p.size : Int) := by omega
    clear hsz hnz
    go_enter Try.func3, Try.ntmps3
    go_wp2_with (first
      | (go_at_call 7; (with_reducible refine FF.out.mono ?_); rintro e w1 ⟨rfl, hB1⟩; have b1 := Lib.hid (next_allocs hB1); obtain ⟨hlt, e0, e1⟩ := boxed2 hB1; clear hB1)
      | (go_at_call 8; (with_reducible refine (awake_any _).mono ?_); rintro e w2 ⟨rfl, hB2⟩; have b2 := Lib.hid (Below.next b1.out hB2); clear hB2))
    go_ret
    exact ⟨rfl, b2.out⟩
  have hp2 : ¬ (30 : Int) < (p.size : Int) := by omega
  by_cases hq : q.size ≤ 30
  rotate_left
  · have hq2 : (30 : Int) < (q.size : Int) := by omega
    clear hsz hnz
    go_enter Try.func3, Try.ntmps3
    go_wp2_with (first
      | (go_at_call 7; (with_reducible refine FF.out.mono ?_); rintro e w1 ⟨rfl, hB1⟩; have b1 := Lib.hid (next_allocs hB1); obtain ⟨hlt, e0, e1⟩ := boxed2 hB1; clear hB1)
      | (go_at_call 8; (with_reducible refine (awake_any _).mono ?_); rintro e w2 ⟨rfl, hB2⟩; have b2 := Lib.hid (Below.next b1.out hB2); clear hB2))
    go_ret
    exact ⟨rfl, b2.out⟩
  have hq2 : ¬ (30 : Int) < (q.size : Int) := by omega
  have hz := short_of hsz
  have hqm : q.size ≤ maxLen := by unfold maxLen; omega
  have FO := Lib.hid (fun W (hB : Below w.heap.size w W) => ownE_any (w := W) (HL.out.below hB) (by omega))
  have FP := Lib.hid (fun W v' (hE : Edgs W v' l) (hB : Below w.heap.size w W) => order_any (w := W) hE (by omega) hz (HS.out.below hB) (by omega) (fun s h => by have := hnz s h; unfold maxLen; omega))
  have FQ := Lib.hid (fun W (hB : Below w.heap.size w W) => rOrder_any (w := W) (HL.out.below hB) (by omega) (HS.out.below hB) (by omega))
  have GR := Lib.hid (fun W v' (hE : Edgs W v' l) => reach_any (w := W) p q hE (by omega) hz hqm)
  have GA := Lib.hid (fun W v' (hE : Edgs W v' l) => acyclic_any (w := W) hE (by omega) hz)
  have hof := Lib.hid (Nat.le_trans (ofL_le l p) hn)
  have hon := Lib.hid (Nat.le_trans (onL_le l q) hn)
  clear hsz hnz hz hqm
  have HN := Lib.hid hn
  have HM := Lib.hid hm
  clear hn hm hp hq
  go_enter Try.func3, Try.ntmps3
  go_wp2_with (first
    | (go_at_call 7; (with_reducible refine FF.out.mono ?_); rintro e w1 ⟨rfl, hB1⟩; have b1 := Lib.hid (next_allocs hB1); have K1 := Lib.hid (boxed2 hB1); obtain ⟨hlt, e0, e1⟩ := K1.out; clear hB1)
    | (go_at_call 9; (with_reducible refine (FO.out _ b1.out).mono ?_); rintro e w2 ⟨v2, rfl, hO, hB⟩; have b2 := Lib.hid (Below.next b1.out hB); have E2 := Lib.hid hO.edgs; have K2 := Lib.hid (keep2 K1.out hB); clear hB hO hlt e0 e1)
    | (go_at_call 10; (with_reducible refine (FP.out _ _ E2.out b2.out).mono ?_); rintro e w3 ⟨o, b, x3, rfl, hR, hS3, hB⟩; have b3 := Lib.hid (Below.next b2.out hB); have E3 := Lib.hid (E2.out.below hB); have K3 := Lib.hid (keep2 K2.out hB); have A3 := Lib.hid hS3.strs; have R3 := Lib.hid hR; clear hR hS3 hB)
    | (go_at_call 11; (with_reducible refine (FQ.out _ b3.out).mono ?_); rintro e w4 ⟨o', b', x4, rfl, hR, hS4, hB⟩; obtain ⟨rfl, rfl⟩ := run_unique (fun h k => ltN_asymm h k) R3.out hR; have b4 := Lib.hid (Below.next b3.out hB); have E4 := Lib.hid (E3.out.below hB); have K4 := Lib.hid (keep2 K3.out hB); have A4 := Lib.hid (A3.out.below hB); have B4 := Lib.hid hS4.strs; clear hR hS4 hB))
  have hol := Lib.hid (show o.length ≤ 1000000 by have h1 := run_len R3.out (t := names) (fun x h => h); have h2 := HM.out; omega)
  have SL := Lib.hid (show ∀ W, Below w4.heap.size w4 W → W.cell? ⟨w.heap.size, 0, none⟩ = some (.string p) ∧ W.cell? ⟨w.heap.size, 1, none⟩ = some (.string q) from fun W hW => (keep2 K4.out hW).2)
  have d0 := Lib.hid (show Below w4.heap.size w4 w4.drew from (Below.refl _ _).drew)
  have CR := Lib.hid (fun W (hB : Below w4.heap.size w4 W) => GR.out W v2 (E4.out.below hB))
  have RR := Lib.hid (fun W (hB : Below w4.heap.size w4 W) => rReach_any (w := W) p q (HL.out.below (Below.next b4.out hB)) (by have := HN.out; omega))
  have CA := Lib.hid (fun W (hB : Below w4.heap.size w4 W) => GA.out W v2 (E4.out.below hB))
  have RA := Lib.hid (fun W (hB : Below w4.heap.size w4 W) => rAcyclic_any (w := W) (HL.out.below (Below.next b4.out hB)) (by have := HN.out; omega))
  have CO := Lib.hid (fun W (hB : Below w4.heap.size w4 W) => (of_any (w := W) p (E4.out.below hB) (by have := HN.out; omega)).mono (fun e w' h => givesL h))
  have RO := Lib.hid (fun W (hB : Below w4.heap.size w4 W) => (rOf_any (w := W) p (HL.out.below (Below.next b4.out hB)) (by have := HN.out; omega)).mono (fun e w' h => givesL h))
  have CN := Lib.hid (fun W (hB : Below w4.heap.size w4 W) => (on_any (w := W) q (E4.out.below hB) (by have := HN.out; omega)).mono (fun e w' h => givesL h))
  have RN := Lib.hid (fun W (hB : Below w4.heap.size w4 W) => (rOn_any (w := W) q (HL.out.below (Below.next b4.out hB)) (by have := HN.out; omega)).mono (fun e w' h => givesL h))
  have hb4 := Lib.hid b4.out
  clear FF FO FP FQ GR GA K1 K2 K3 K4 R3 E2 E3 E4 A3 b1 b2 b3 b4 HL HS HN HM
  generalize way l p q = r at *
  generalize acyc l = c at *
  refine wp_region_held_drew (S := (fun W => W.cell? ⟨w.heap.size, 0, none⟩ = some (.string p) ∧ W.cell? ⟨w.heap.size, 1, none⟩ = some (.string q))) (by kernel_rfl) ?_ (fun hHeld => ?_)
  · exact SL.out _ d0.out
  refine wpAnyH_take (i := 0) (v := ?_) rfl (by kernel_rfl) (by kernel_rfl) (by kernel_rfl) (fun _ _ _ h => h) (Or.inl ⟨by rfl, ?_⟩) hHeld ?_
  rotate_left
  · intro w hSw
    simp only [List.getElem_toArray, List.getElem_cons_zero]
    (try dsimp only at hSw)
    go_simp
    (try with_reducible rfl)
  simp only [Act.put, List.getElem_toArray, List.getElem_cons_zero, List.setIfInBounds_toArray, List.set_cons_zero, List.set_cons_succ]
  refine wpAnyH_take (i := 1) (v := ?_) rfl (by kernel_rfl) (by kernel_rfl) (by kernel_rfl) (fun _ _ _ h => h) (Or.inl ⟨by rfl, ?_⟩) hHeld ?_
  rotate_left
  · intro w hSw
    simp only [List.getElem_toArray, List.getElem_cons_zero, List.getElem_cons_succ]
    (try dsimp only at hSw)
    go_simp
    (try with_reducible rfl)
  simp only [Act.put, List.getElem_toArray, List.getElem_cons_zero, List.getElem_cons_succ, List.setIfInBounds_toArray, List.set_cons_zero, List.set_cons_succ]
  refine wpAnyH_ready (rs := [2]) (by kernel_rfl) (by simp) ?_
  refine AllReadyH.cons (o := _) rfl (fun K hK => ?_) AllReadyH.nil
  simp only [List.getElem_toArray, List.getElem_cons_zero, List.getElem_cons_succ]
  rw [if_pos (by rfl)]
  go_simp
  (go_at_call 12; (with_reducible refine (aw_same (A4.out.below d0.out) (B4.out.below d0.out) hol.out).mono ?_); rintro e y1 ⟨rfl, hB⟩; have d1 := Lib.hid (show Below w4.heap.size w4 y1 from Below.next d0.out hB); clear hB)
  refine hK.out _ _ ?_ (fun hHeld => ?_)
  · exact SL.out _ d1.out
  clear hK K
  refine wpAnyH_take (i := 3) (v := ?_) rfl (by kernel_rfl) (by kernel_rfl) (by kernel_rfl) (fun _ _ _ h => h) (Or.inl ⟨by rfl, ?_⟩) hHeld ?_
  rotate_left
  · intro w hSw
    simp only [List.getElem_toArray, List.getElem_cons_zero, List.getElem_cons_succ]
    (try dsimp only at hSw)
    go_simp
    (try with_reducible rfl)
  simp only [Act.put, List.getElem_toArray, List.getElem_cons_zero, List.getElem_cons_succ, List.setIfInBounds_toArray, List.set_cons_zero, List.set_cons_succ]
  refine wpAnyH_take (i := 4) (v := ?_) rfl (by kernel_rfl) (by kernel_rfl) (by kernel_rfl) (fun _ _ _ h => h) (Or.inl ⟨by rfl, ?_⟩) hHeld ?_
  rotate_left
  · intro w hSw
    simp only [List.getElem_toArray, List.getElem_cons_zero, List.getElem_cons_succ]
    (try dsimp only at hSw)
    go_simp
    (try with_reducible rfl)
  simp only [Act.put, List.getElem_toArray, List.getElem_cons_zero, List.getElem_cons_succ, List.setIfInBounds_toArray, List.set_cons_zero, List.set_cons_succ]
  refine wpAnyH_take (i := 5) (v := ?_) rfl (by kernel_rfl) (by kernel_rfl) (by kernel_rfl) (fun _ _ _ h => h) (Or.inl ⟨by rfl, ?_⟩) hHeld ?_
  rotate_left
  · intro w hSw
    simp only [List.getElem_toArray, List.getElem_cons_zero, List.getElem_cons_succ]
    (try dsimp only at hSw)
    go_simp
    (try with_reducible rfl)
  simp only [Act.put, List.getElem_toArray, List.getElem_cons_zero, List.getElem_cons_succ, List.setIfInBounds_toArray, List.set_cons_zero, List.set_cons_succ]
  refine wpAnyH_take (i := 6) (v := ?_) rfl (by kernel_rfl) (by kernel_rfl) (by kernel_rfl) (fun _ _ _ h => h) (Or.inl ⟨by rfl, ?_⟩) hHeld ?_
  rotate_left
  · intro w hSw
    simp only [List.getElem_toArray, List.getElem_cons_zero, List.getElem_cons_succ]
    (try dsimp only at hSw)
    go_simp
    (try with_reducible rfl)
  simp only [Act.put, List.getElem_toArray, List.getElem_cons_zero, List.getElem_cons_succ, List.setIfInBounds_toArray, List.set_cons_zero, List.set_cons_succ]
  refine wpAnyH_take (i := 7) (v := ?_) rfl (by kernel_rfl) (by kernel_rfl) (by kernel_rfl) (fun _ _ _ h => h) (Or.inl ⟨by rfl, ?_⟩) hHeld ?_
  rotate_left
  · intro w hSw
    simp only [List.getElem_toArray, List.getElem_cons_zero, List.getElem_cons_succ]
    (try dsimp only at hSw)
    go_simp
    (try with_reducible rfl)
  simp only [Act.put, List.getElem_toArray, List.getElem_cons_zero, List.getElem_cons_succ, List.setIfInBounds_toArray, List.set_cons_zero, List.set_cons_succ]
  refine wpAnyH_take (i := 8) (v := ?_) rfl (by kernel_rfl) (by kernel_rfl) (by kernel_rfl) (fun _ _ _ h => h) (Or.inl ⟨by rfl, ?_⟩) hHeld ?_
  rotate_left
  · intro w hSw
    simp only [List.getElem_toArray, List.getElem_cons_zero, List.getElem_cons_succ]
    (try dsimp only at hSw)
    go_simp
    (try with_reducible rfl)
  simp only [Act.put, List.getElem_toArray, List.getElem_cons_zero, List.getElem_cons_succ, List.setIfInBounds_toArray, List.set_cons_zero, List.set_cons_succ]
  refine wpAnyH_take (i := 9) (v := ?_) rfl (by kernel_rfl) (by kernel_rfl) (by kernel_rfl) (fun _ _ _ h => h) (Or.inl ⟨by rfl, ?_⟩) hHeld ?_
  rotate_left
  · intro w hSw
    simp only [List.getElem_toArray, List.getElem_cons_zero, List.getElem_cons_succ]
    (try dsimp only at hSw)
    go_simp
    (try with_reducible rfl)
  simp only [Act.put, List.getElem_toArray, List.getElem_cons_zero, List.getElem_cons_succ, List.setIfInBounds_toArray, List.set_cons_zero, List.set_cons_succ]
  refine wpAnyH_take (i := 10) (v := ?_) rfl (by kernel_rfl) (by kernel_rfl) (by kernel_rfl) (fun _ _ _ h => h) (Or.inl ⟨by rfl, ?_⟩) hHeld ?_
  rotate_left
  · intro w hSw
    simp only [List.getElem_toArray, List.getElem_cons_zero, List.getElem_cons_succ]
    (try dsimp only at hSw)
    go_simp
    (try with_reducible rfl)
  simp only [Act.put, List.getElem_toArray, List.getElem_cons_zero, List.getElem_cons_succ, List.setIfInBounds_toArray, List.set_cons_zero, List.set_cons_succ]
  refine wpAnyH_take (i := 11) (v := ?_) rfl (by kernel_rfl) (by kernel_rfl) (by kernel_rfl) (fun _ _ _ h => h) (Or.inl ⟨by rfl, ?_⟩) hHeld ?_
  rotate_left
  · intro w hSw
    simp only [List.getElem_toArray, List.getElem_cons_zero, List.getElem_cons_succ]
    (try dsimp only at hSw)
    go_simp
    (try with_reducible rfl)
  simp only [Act.put, List.getElem_toArray, List.getElem_cons_zero, List.getElem_cons_succ, List.setIfInBounds_toArray, List.set_cons_zero, List.set_cons_succ]
  refine wpAnyH_take (i := 12) (v := ?_) rfl (by kernel_rfl) (by kernel_rfl) (by kernel_rfl) (fun _ _ _ h => h) (Or.inl ⟨by rfl, ?_⟩) hHeld ?_
  rotate_left
  · intro w hSw
    simp only [List.getElem_toArray, List.getElem_cons_zero, List.getElem_cons_succ]
    (try dsimp only at hSw)
    go_simp
    (try with_reducible rfl)
  simp only [Act.put, List.getElem_toArray, List.getElem_cons_zero, List.getElem_cons_succ, List.setIfInBounds_toArray, List.set_cons_zero, List.set_cons_succ]
  refine wpAnyH_take (i := 13) (v := ?_) rfl (by kernel_rfl) (by kernel_rfl) (by kernel_rfl) (fun _ _ _ h => h) (Or.inl ⟨by rfl, ?_⟩) hHeld ?_
  rotate_left
  · intro w hSw
    simp only [List.getElem_toArray, List.getElem_cons_zero, List.getElem_cons_succ]
    (try dsimp only at hSw)
    go_simp
    (try with_reducible rfl)
  simp only [Act.put, List.getElem_toArray, List.getElem_cons_zero, List.getElem_cons_succ, List.setIfInBounds_toArray, List.set_cons_zero, List.set_cons_succ]
  refine wpAnyH_take (i := 15) (v := ?_) rfl (by kernel_rfl) (by kernel_rfl) (by kernel_rfl) (fun _ _ _ h => h) (Or.inl ⟨by rfl, ?_⟩) hHeld ?_
  rotate_left
  · intro w hSw
    simp only [List.getElem_toArray, List.getElem_cons_zero, List.getElem_cons_succ]
    (try dsimp only at hSw)
    go_simp
    (try with_reducible rfl)
  simp only [Act.put, List.getElem_toArray, List.getElem_cons_zero, List.getElem_cons_succ, List.setIfInBounds_toArray, List.set_cons_zero, List.set_cons_succ]
  refine wpAnyH_take (i := 16) (v := ?_) rfl (by kernel_rfl) (by kernel_rfl) (by kernel_rfl) (fun _ _ _ h => h) (Or.inl ⟨by rfl, ?_⟩) hHeld ?_
  rotate_left
  · intro w hSw
    simp only [List.getElem_toArray, List.getElem_cons_zero, List.getElem_cons_succ]
    (try dsimp only at hSw)
    go_simp
    (try with_reducible rfl)
  simp only [Act.put, List.getElem_toArray, List.getElem_cons_zero, List.getElem_cons_succ, List.setIfInBounds_toArray, List.set_cons_zero, List.set_cons_succ]
  refine wpAnyH_take (i := 17) (v := ?_) rfl (by kernel_rfl) (by kernel_rfl) (by kernel_rfl) (fun _ _ _ h => h) (Or.inl ⟨by rfl, ?_⟩) hHeld ?_
  rotate_left
  · intro w hSw
    simp only [List.getElem_toArray, List.getElem_cons_zero, List.getElem_cons_succ]
    (try dsimp only at hSw)
    go_simp
    (try with_reducible rfl)
  simp only [Act.put, List.getElem_toArray, List.getElem_cons_zero, List.getElem_cons_succ, List.setIfInBounds_toArray, List.set_cons_zero, List.set_cons_succ]
  refine wpAnyH_take (i := 18) (v := ?_) rfl (by kernel_rfl) (by kernel_rfl) (by kernel_rfl) (fun _ _ _ h => h) (Or.inl ⟨by rfl, ?_⟩) hHeld ?_
  rotate_left
  · intro w hSw
    simp only [List.getElem_toArray, List.getElem_cons_zero, List.getElem_cons_succ]
    (try dsimp only at hSw)
    go_simp
    (try with_reducible rfl)
  simp only [Act.put, List.getElem_toArray, List.getElem_cons_zero, List.getElem_cons_succ, List.setIfInBounds_toArray, List.set_cons_zero, List.set_cons_succ]
  refine wpAnyH_take (i := 19) (v := ?_) rfl (by kernel_rfl) (by kernel_rfl) (by kernel_rfl) (fun _ _ _ h => h) (Or.inl ⟨by rfl, ?_⟩) hHeld ?_
  rotate_left
  · intro w hSw
    simp only [List.getElem_toArray, List.getElem_cons_zero, List.getElem_cons_succ]
    (try dsimp only at hSw)
    go_simp
    (try with_reducible rfl)
  simp only [Act.put, List.getElem_toArray, List.getElem_cons_zero, List.getElem_cons_succ, List.setIfInBounds_toArray, List.set_cons_zero, List.set_cons_succ]
  refine wpAnyH_ready (rs := [14]) (by kernel_rfl) (by simp) ?_
  refine AllReadyH.cons (o := _) rfl (fun K hK => ?_) AllReadyH.nil
  simp only [List.getElem_toArray, List.getElem_cons_zero, List.getElem_cons_succ]
  rw [if_pos (by rfl)]
  go_simp
  (go_at_call 13; (with_reducible refine (CR.out _ d1.out).mono ?_); rintro e y2 ⟨rfl, hB⟩; have d2 := Lib.hid (show Below w4.heap.size w4 y2 from Below.next d1.out hB); clear hB)
  refine hK.out _ _ ?_ (fun hHeld => ?_)
  · exact SL.out _ d2.out
  clear hK K
  refine wpAnyH_ready (rs := [20]) (by kernel_rfl) (by simp) ?_
  refine AllReadyH.cons (o := _) rfl (fun K hK => ?_) AllReadyH.nil
  simp only [List.getElem_toArray, List.getElem_cons_zero, List.getElem_cons_succ]
  rw [if_pos (by rfl)]
  go_simp
  (go_at_call 14; (with_reducible refine (RR.out _ d2.out).mono ?_); rintro e y3 ⟨rfl, hB⟩; have d3 := Lib.hid (show Below w4.heap.size w4 y3 from Below.next d2.out hB); clear hB)
  refine hK.out _ _ ?_ (fun hHeld => ?_)
  · exact SL.out _ d3.out
  clear hK K
  refine wpAnyH_take (i := 21) (v := ?_) rfl (by kernel_rfl) (by kernel_rfl) (by kernel_rfl) (fun _ _ _ h => h) (Or.inl ⟨by rfl, ?_⟩) hHeld ?_
  rotate_left
  · intro w hSw
    simp only [List.getElem_toArray, List.getElem_cons_zero, List.getElem_cons_succ]
    (try dsimp only at hSw)
    go_simp
    (try with_reducible rfl)
  simp only [Act.put, List.getElem_toArray, List.getElem_cons_zero, List.getElem_cons_succ, List.setIfInBounds_toArray, List.set_cons_zero, List.set_cons_succ]
  refine wpAnyH_take (i := 22) (v := ?_) rfl (by kernel_rfl) (by kernel_rfl) (by kernel_rfl) (fun _ _ _ h => h) (Or.inl ⟨by rfl, ?_⟩) hHeld ?_
  rotate_left
  · intro w hSw
    simp only [List.getElem_toArray, List.getElem_cons_zero, List.getElem_cons_succ]
    (try dsimp only at hSw)
    go_simp
    (try with_reducible rfl)
  simp only [Act.put, List.getElem_toArray, List.getElem_cons_zero, List.getElem_cons_succ, List.setIfInBounds_toArray, List.set_cons_zero, List.set_cons_succ]
  refine wpAnyH_take (i := 23) (v := ?_) rfl (by kernel_rfl) (by kernel_rfl) (by kernel_rfl) (fun _ _ _ h => h) (Or.inl ⟨by rfl, ?_⟩) hHeld ?_
  rotate_left
  · intro w hSw
    simp only [List.getElem_toArray, List.getElem_cons_zero, List.getElem_cons_succ]
    (try dsimp only at hSw)
    go_simp
    (try with_reducible rfl)
  simp only [Act.put, List.getElem_toArray, List.getElem_cons_zero, List.getElem_cons_succ, List.setIfInBounds_toArray, List.set_cons_zero, List.set_cons_succ]
  refine wpAnyH_take (i := 24) (v := ?_) rfl (by kernel_rfl) (by kernel_rfl) (by kernel_rfl) (fun _ _ _ h => h) (Or.inl ⟨by rfl, ?_⟩) hHeld ?_
  rotate_left
  · intro w hSw
    simp only [List.getElem_toArray, List.getElem_cons_zero, List.getElem_cons_succ]
    (try dsimp only at hSw)
    go_simp
    (try with_reducible rfl)
  simp only [Act.put, List.getElem_toArray, List.getElem_cons_zero, List.getElem_cons_succ, List.setIfInBounds_toArray, List.set_cons_zero, List.set_cons_succ]
  refine wpAnyH_take (i := 26) (v := ?_) rfl (by kernel_rfl) (by kernel_rfl) (by kernel_rfl) (fun _ _ _ h => h) (Or.inl ⟨by rfl, ?_⟩) hHeld ?_
  rotate_left
  · intro w hSw
    simp only [List.getElem_toArray, List.getElem_cons_zero, List.getElem_cons_succ]
    (try dsimp only at hSw)
    go_simp
    (try with_reducible rfl)
  simp only [Act.put, List.getElem_toArray, List.getElem_cons_zero, List.getElem_cons_succ, List.setIfInBounds_toArray, List.set_cons_zero, List.set_cons_succ]
  refine wpAnyH_ready (rs := [25]) (by kernel_rfl) (by simp) ?_
  refine AllReadyH.cons (o := _) rfl (fun K hK => ?_) AllReadyH.nil
  simp only [List.getElem_toArray, List.getElem_cons_zero, List.getElem_cons_succ]
  rw [if_pos (by rfl)]
  go_simp
  (go_at_call 15; (with_reducible refine (CA.out _ d3.out).mono ?_); rintro e y4 ⟨rfl, hB⟩; have d4 := Lib.hid (show Below w4.heap.size w4 y4 from Below.next d3.out hB); clear hB)
  refine hK.out _ _ ?_ (fun hHeld => ?_)
  · exact SL.out _ d4.out
  clear hK K
  refine wpAnyH_ready (rs := [27]) (by kernel_rfl) (by simp) ?_
  refine AllReadyH.cons (o := _) rfl (fun K hK => ?_) AllReadyH.nil
  simp only [List.getElem_toArray, List.getElem_cons_zero, List.getElem_cons_succ]
  rw [if_pos (by rfl)]
  go_simp
  (go_at_call 16; (with_reducible refine (RA.out _ d4.out).mono ?_); rintro e y5 ⟨rfl, hB⟩; have d5 := Lib.hid (show Below w4.heap.size w4 y5 from Below.next d4.out hB); clear hB)
  refine hK.out _ _ ?_ (fun hHeld => ?_)
  · exact SL.out _ d5.out
  clear hK K
  refine wpAnyH_take (i := 28) (v := ?_) rfl (by kernel_rfl) (by kernel_rfl) (by kernel_rfl) (fun _ _ _ h => h) (Or.inl ⟨by rfl, ?_⟩) hHeld ?_
  rotate_left
  · intro w hSw
    simp only [List.getElem_toArray, List.getElem_cons_zero, List.getElem_cons_succ]
    (try dsimp only at hSw)
    go_simp
    (try with_reducible rfl)
  simp only [Act.put, List.getElem_toArray, List.getElem_cons_zero, List.getElem_cons_succ, List.setIfInBounds_toArray, List.set_cons_zero, List.set_cons_succ]
  refine wpAnyH_take (i := 29) (v := ?_) rfl (by kernel_rfl) (by kernel_rfl) (by kernel_rfl) (fun _ _ _ h => h) (Or.inl ⟨by rfl, ?_⟩) hHeld ?_
  rotate_left
  · intro w hSw
    simp only [List.getElem_toArray, List.getElem_cons_zero, List.getElem_cons_succ]
    (try dsimp only at hSw)
    go_simp
    (try with_reducible rfl)
  simp only [Act.put, List.getElem_toArray, List.getElem_cons_zero, List.getElem_cons_succ, List.setIfInBounds_toArray, List.set_cons_zero, List.set_cons_succ]
  refine wpAnyH_take (i := 30) (v := ?_) rfl (by kernel_rfl) (by kernel_rfl) (by kernel_rfl) (fun _ _ _ h => h) (Or.inl ⟨by rfl, ?_⟩) hHeld ?_
  rotate_left
  · intro w hSw
    simp only [List.getElem_toArray, List.getElem_cons_zero, List.getElem_cons_succ]
    (try dsimp only at hSw)
    go_simp
    (try with_reducible rfl)
  simp only [Act.put, List.getElem_toArray, List.getElem_cons_zero, List.getElem_cons_succ, List.setIfInBounds_toArray, List.set_cons_zero, List.set_cons_succ]
  refine wpAnyH_take (i := 31) (v := ?_) rfl (by kernel_rfl) (by kernel_rfl) (by kernel_rfl) (fun _ _ _ h => h) (Or.inl ⟨by rfl, ?_⟩) hHeld ?_
  rotate_left
  · intro w hSw
    simp only [List.getElem_toArray, List.getElem_cons_zero, List.getElem_cons_succ]
    (try dsimp only at hSw)
    go_simp
    (try with_reducible rfl)
  simp only [Act.put, List.getElem_toArray, List.getElem_cons_zero, List.getElem_cons_succ, List.setIfInBounds_toArray, List.set_cons_zero, List.set_cons_succ]
  refine wpAnyH_take (i := 32) (v := ?_) rfl (by kernel_rfl) (by kernel_rfl) (by kernel_rfl) (fun _ _ _ h => h) (Or.inl ⟨by rfl, ?_⟩) hHeld ?_
  rotate_left
  · intro w hSw
    simp only [List.getElem_toArray, List.getElem_cons_zero, List.getElem_cons_succ]
    (try dsimp only at hSw)
    go_simp
    (try with_reducible rfl)
  simp only [Act.put, List.getElem_toArray, List.getElem_cons_zero, List.getElem_cons_succ, List.setIfInBounds_toArray, List.set_cons_zero, List.set_cons_succ]
  refine wpAnyH_take (i := 33) (v := ?_) rfl (by kernel_rfl) (by kernel_rfl) (by kernel_rfl) (fun _ _ _ h => h) (Or.inl ⟨by rfl, ?_⟩) hHeld ?_
  rotate_left
  · intro w hSw
    simp only [List.getElem_toArray, List.getElem_cons_zero, List.getElem_cons_succ]
    (try dsimp only at hSw)
    go_simp
    (try with_reducible rfl)
  simp only [Act.put, List.getElem_toArray, List.getElem_cons_zero, List.getElem_cons_succ, List.setIfInBounds_toArray, List.set_cons_zero, List.set_cons_succ]
  refine wpAnyH_take (i := 35) (v := ?_) rfl (by kernel_rfl) (by kernel_rfl) (by kernel_rfl) (fun _ _ _ h => h) (Or.inl ⟨by rfl, ?_⟩) hHeld ?_
  rotate_left
  · intro w hSw
    simp only [List.getElem_toArray, List.getElem_cons_zero, List.getElem_cons_succ]
    (try dsimp only at hSw)
    go_simp
    (try with_reducible rfl)
  simp only [Act.put, List.getElem_toArray, List.getElem_cons_zero, List.getElem_cons_succ, List.setIfInBounds_toArray, List.set_cons_zero, List.set_cons_succ]
  refine wpAnyH_take (i := 36) (v := ?_) rfl (by kernel_rfl) (by kernel_rfl) (by kernel_rfl) (fun _ _ _ h => h) (Or.inl ⟨by rfl, ?_⟩) hHeld ?_
  rotate_left
  · intro w hSw
    simp only [List.getElem_toArray, List.getElem_cons_zero, List.getElem_cons_succ]
    (try dsimp only at hSw)
    go_simp
    (try with_reducible rfl)
  simp only [Act.put, List.getElem_toArray, List.getElem_cons_zero, List.getElem_cons_succ, List.setIfInBounds_toArray, List.set_cons_zero, List.set_cons_succ]
  refine wpAnyH_take (i := 37) (v := ?_) rfl (by kernel_rfl) (by kernel_rfl) (by kernel_rfl) (fun _ _ _ h => h) (Or.inl ⟨by rfl, ?_⟩) hHeld ?_
  rotate_left
  · intro w hSw
    simp only [List.getElem_toArray, List.getElem_cons_zero, List.getElem_cons_succ]
    (try dsimp only at hSw)
    go_simp
    (try with_reducible rfl)
  simp only [Act.put, List.getElem_toArray, List.getElem_cons_zero, List.getElem_cons_succ, List.setIfInBounds_toArray, List.set_cons_zero, List.set_cons_succ]
  refine wpAnyH_ready (rs := [34]) (by kernel_rfl) (by simp) ?_
  refine AllReadyH.cons (o := _) rfl (fun K hK => ?_) AllReadyH.nil
  simp only [List.getElem_toArray, List.getElem_cons_zero, List.getElem_cons_succ]
  rw [if_pos (by rfl)]
  go_simp
  (go_at_call 17; (with_reducible refine (CO.out _ d5.out).mono ?_); rintro e y6 ⟨v6, rfl, hS, hB⟩; have d6 := Lib.hid (show Below w4.heap.size w4 y6 from Below.next d5.out hB); have S6 := Lib.hid hS; clear hS; clear hB)
  refine hK.out _ _ ?_ (fun hHeld => ?_)
  · exact SL.out _ d6.out
  clear hK K
  refine wpAnyH_ready (rs := [38]) (by kernel_rfl) (by simp) ?_
  refine AllReadyH.cons (o := _) rfl (fun K hK => ?_) AllReadyH.nil
  simp only [List.getElem_toArray, List.getElem_cons_zero, List.getElem_cons_succ]
  rw [if_pos (by rfl)]
  go_simp
  (go_at_call 18; (with_reducible refine (RO.out _ d6.out).mono ?_); rintro e y7 ⟨v7, rfl, hS, hB⟩; have d7 := Lib.hid (show Below w4.heap.size w4 y7 from Below.next d6.out hB); have S7 := Lib.hid hS; have S6 := Lib.hid (S6.out.below hB); clear hS; clear hB)
  refine hK.out _ _ ?_ (fun hHeld => ?_)
  · exact SL.out _ d7.out
  clear hK K
  refine wpAnyH_ready (rs := [39]) (by kernel_rfl) (by simp) ?_
  refine AllReadyH.cons (o := _) rfl (fun K hK => ?_) AllReadyH.nil
  simp only [List.getElem_toArray, List.getElem_cons_zero, List.getElem_cons_succ]
  rw [if_pos (by rfl)]
  go_simp
  (go_at_call 12; (with_reducible refine (aw_same S6.out S7.out (by have := hof.out; omega)).mono ?_); rintro e y8 ⟨rfl, hB⟩; have d8 := Lib.hid (show Below w4.heap.size w4 y8 from Below.next d7.out hB); clear S6 S7; clear hB)
  refine hK.out _ _ ?_ (fun hHeld => ?_)
  · exact SL.out _ d8.out
  clear hK K
  refine wpAnyH_take (i := 40) (v := ?_) rfl (by kernel_rfl) (by kernel_rfl) (by kernel_rfl) (fun _ _ _ h => h) (Or.inl ⟨by rfl, ?_⟩) hHeld ?_
  rotate_left
  · intro w hSw
    simp only [List.getElem_toArray, List.getElem_cons_zero, List.getElem_cons_succ]
    (try dsimp only at hSw)
    go_simp
    (try with_reducible rfl)
  simp only [Act.put, List.getElem_toArray, List.getElem_cons_zero, List.getElem_cons_succ, List.setIfInBounds_toArray, List.set_cons_zero, List.set_cons_succ]
  refine wpAnyH_take (i := 41) (v := ?_) rfl (by kernel_rfl) (by kernel_rfl) (by kernel_rfl) (fun _ _ _ h => h) (Or.inl ⟨by rfl, ?_⟩) hHeld ?_
  rotate_left
  · intro w hSw
    simp only [List.getElem_toArray, List.getElem_cons_zero, List.getElem_cons_succ]
    (try dsimp only at hSw)
    go_simp
    (try with_reducible rfl)
  simp only [Act.put, List.getElem_toArray, List.getElem_cons_zero, List.getElem_cons_succ, List.setIfInBounds_toArray, List.set_cons_zero, List.set_cons_succ]
  refine wpAnyH_take (i := 42) (v := ?_) rfl (by kernel_rfl) (by kernel_rfl) (by kernel_rfl) (fun _ _ _ h => h) (Or.inl ⟨by rfl, ?_⟩) hHeld ?_
  rotate_left
  · intro w hSw
    simp only [List.getElem_toArray, List.getElem_cons_zero, List.getElem_cons_succ]
    (try dsimp only at hSw)
    go_simp
    (try with_reducible rfl)
  simp only [Act.put, List.getElem_toArray, List.getElem_cons_zero, List.getElem_cons_succ, List.setIfInBounds_toArray, List.set_cons_zero, List.set_cons_succ]
  refine wpAnyH_take (i := 43) (v := ?_) rfl (by kernel_rfl) (by kernel_rfl) (by kernel_rfl) (fun _ _ _ h => h) (Or.inl ⟨by rfl, ?_⟩) hHeld ?_
  rotate_left
  · intro w hSw
    simp only [List.getElem_toArray, List.getElem_cons_zero, List.getElem_cons_succ]
    (try dsimp only at hSw)
    go_simp
    (try with_reducible rfl)
  simp only [Act.put, List.getElem_toArray, List.getElem_cons_zero, List.getElem_cons_succ, List.setIfInBounds_toArray, List.set_cons_zero, List.set_cons_succ]
  refine wpAnyH_take (i := 44) (v := ?_) rfl (by kernel_rfl) (by kernel_rfl) (by kernel_rfl) (fun _ _ _ h => h) (Or.inl ⟨by rfl, ?_⟩) hHeld ?_
  rotate_left
  · intro w hSw
    simp only [List.getElem_toArray, List.getElem_cons_zero, List.getElem_cons_succ]
    (try dsimp only at hSw)
    go_simp
    (try with_reducible rfl)
  simp only [Act.put, List.getElem_toArray, List.getElem_cons_zero, List.getElem_cons_succ, List.setIfInBounds_toArray, List.set_cons_zero, List.set_cons_succ]
  refine wpAnyH_take (i := 46) (v := ?_) rfl (by kernel_rfl) (by kernel_rfl) (by kernel_rfl) (fun _ _ _ h => h) (Or.inl ⟨by rfl, ?_⟩) hHeld ?_
  rotate_left
  · intro w hSw
    simp only [List.getElem_toArray, List.getElem_cons_zero, List.getElem_cons_succ]
    (try dsimp only at hSw)
    go_simp
    (try with_reducible rfl)
  simp only [Act.put, List.getElem_toArray, List.getElem_cons_zero, List.getElem_cons_succ, List.setIfInBounds_toArray, List.set_cons_zero, List.set_cons_succ]
  refine wpAnyH_take (i := 47) (v := ?_) rfl (by kernel_rfl) (by kernel_rfl) (by kernel_rfl) (fun _ _ _ h => h) (Or.inl ⟨by rfl, ?_⟩) hHeld ?_
  rotate_left
  · intro w hSw
    simp only [List.getElem_toArray, List.getElem_cons_zero, List.getElem_cons_succ]
    (try dsimp only at hSw)
    go_simp
    (try with_reducible rfl)
  simp only [Act.put, List.getElem_toArray, List.getElem_cons_zero, List.getElem_cons_succ, List.setIfInBounds_toArray, List.set_cons_zero, List.set_cons_succ]
  refine wpAnyH_take (i := 48) (v := ?_) rfl (by kernel_rfl) (by kernel_rfl) (by kernel_rfl) (fun _ _ _ h => h) (Or.inl ⟨by rfl, ?_⟩) hHeld ?_
  rotate_left
  · intro w hSw
    simp only [List.getElem_toArray, List.getElem_cons_zero, List.getElem_cons_succ]
    (try dsimp only at hSw)
    go_simp
    (try with_reducible rfl)
  simp only [Act.put, List.getElem_toArray, List.getElem_cons_zero, List.getElem_cons_succ, List.setIfInBounds_toArray, List.set_cons_zero, List.set_cons_succ]
  refine wpAnyH_ready (rs := [45]) (by kernel_rfl) (by simp) ?_
  refine AllReadyH.cons (o := _) rfl (fun K hK => ?_) AllReadyH.nil
  simp only [List.getElem_toArray, List.getElem_cons_zero, List.getElem_cons_succ]
  rw [if_pos (by rfl)]
  go_simp
  (go_at_call 19; (with_reducible refine (CN.out _ d8.out).mono ?_); rintro e y9 ⟨v9, rfl, hS, hB⟩; have d9 := Lib.hid (show Below w4.heap.size w4 y9 from Below.next d8.out hB); have S6 := Lib.hid hS; clear hS; clear hB)
  refine hK.out _ _ ?_ (fun hHeld => ?_)
  · exact SL.out _ d9.out
  clear hK K
  refine wpAnyH_ready (rs := [49]) (by kernel_rfl) (by simp) ?_
  refine AllReadyH.cons (o := _) rfl (fun K hK => ?_) AllReadyH.nil
  simp only [List.getElem_toArray, List.getElem_cons_zero, List.getElem_cons_succ]
  rw [if_pos (by rfl)]
  go_simp
  (go_at_call 20; (with_reducible refine (RN.out _ d9.out).mono ?_); rintro e y10 ⟨v10, rfl, hS, hB⟩; have d10 := Lib.hid (show Below w4.heap.size w4 y10 from Below.next d9.out hB); have S7 := Lib.hid hS; have S6 := Lib.hid (S6.out.below hB); clear hS; clear hB)
  refine hK.out _ _ ?_ (fun hHeld => ?_)
  · exact SL.out _ d10.out
  clear hK K
  refine wpAnyH_ready (rs := [50]) (by kernel_rfl) (by simp) ?_
  refine AllReadyH.cons (o := _) rfl (fun K hK => ?_) AllReadyH.nil
  simp only [List.getElem_toArray, List.getElem_cons_zero, List.getElem_cons_succ]
  rw [if_pos (by rfl)]
  go_simp
  (go_at_call 12; (with_reducible refine (aw_same S6.out S7.out (by have := hon.out; omega)).mono ?_); rintro e y11 ⟨rfl, hB⟩; have d11 := Lib.hid (show Below w4.heap.size w4 y11 from Below.next d10.out hB); clear S6 S7; clear hB)
  refine hK.out _ _ ?_ (fun hHeld => ?_)
  · exact SL.out _ d11.out
  clear hK K
  refine wpAnyH_take (i := 51) (v := ?_) rfl (by kernel_rfl) (by kernel_rfl) (by kernel_rfl) (fun _ _ _ h => h) (Or.inl ⟨by rfl, ?_⟩) hHeld ?_
  rotate_left
  · intro w hSw
    simp only [List.getElem_toArray, List.getElem_cons_zero, List.getElem_cons_succ]
    (try dsimp only at hSw)
    go_simp
    (try with_reducible rfl)
  simp only [Act.put, List.getElem_toArray, List.getElem_cons_zero, List.getElem_cons_succ, List.setIfInBounds_toArray, List.set_cons_zero, List.set_cons_succ]
  refine wpAnyH_take (i := 52) (v := ?_) rfl (by kernel_rfl) (by kernel_rfl) (by kernel_rfl) (fun _ _ _ h => h) (Or.inl ⟨by rfl, ?_⟩) hHeld ?_
  rotate_left
  · intro w hSw
    simp only [List.getElem_toArray, List.getElem_cons_zero, List.getElem_cons_succ]
    (try dsimp only at hSw)
    go_simp
    (try with_reducible rfl)
  simp only [Act.put, List.getElem_toArray, List.getElem_cons_zero, List.getElem_cons_succ, List.setIfInBounds_toArray, List.set_cons_zero, List.set_cons_succ]
  refine wpAnyH_ready (rs := [53]) (by kernel_rfl) (by simp) ?_
  refine AllReadyH.cons (o := _) rfl (fun K hK => ?_) AllReadyH.nil
  simp only [List.getElem_toArray, List.getElem_cons_zero, List.getElem_cons_succ]
  rw [if_pos (by rfl)]
  go_simp
  (go_at_call 8; (with_reducible refine (awake_any _).mono ?_); rintro e y12 ⟨rfl, hB⟩; have d12 := Lib.hid (show Below w4.heap.size w4 y12 from Below.next d11.out hB); clear hB)
  refine hK.out _ _ ?_ (fun hHeld => ?_)
  · exact SL.out _ d12.out
  clear hK K
  refine wpAnyH_take (i := 54) (v := ?_) rfl (by kernel_rfl) (by kernel_rfl) (by kernel_rfl) (fun _ _ _ h => h) (Or.inl ⟨by rfl, ?_⟩) hHeld ?_
  rotate_left
  · intro w hSw
    simp only [List.getElem_toArray, List.getElem_cons_zero, List.getElem_cons_succ]
    (try dsimp only at hSw)
    go_simp
    (try with_reducible rfl)
  simp only [Act.put, List.getElem_toArray, List.getElem_cons_zero, List.getElem_cons_succ, List.setIfInBounds_toArray, List.set_cons_zero, List.set_cons_succ]
  refine wpAnyH_take (i := 55) (v := ?_) rfl (by kernel_rfl) (by kernel_rfl) (by kernel_rfl) (fun _ _ _ h => h) (Or.inl ⟨by rfl, ?_⟩) hHeld ?_
  rotate_left
  · intro w hSw
    simp only [List.getElem_toArray, List.getElem_cons_zero, List.getElem_cons_succ]
    (try dsimp only at hSw)
    go_simp
    (try with_reducible rfl)
  simp only [Act.put, List.getElem_toArray, List.getElem_cons_zero, List.getElem_cons_succ, List.setIfInBounds_toArray, List.set_cons_zero, List.set_cons_succ]
  refine wpAnyH_done (by kernel_rfl) ?_ _
  go_wp2
  go_ret
  exact ⟨rfl, Below.next hb4.out d12.out⟩
end Go.Proofs.Ythelkkbjflohgaa.Ds

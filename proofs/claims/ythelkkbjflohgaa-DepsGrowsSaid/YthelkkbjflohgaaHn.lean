/- The walk through errandlaw31's DepsWays (printed by gen_ways.py). -/
import Derived.Test.YthelkkbjflohgaaHm
namespace Go.Proofs.Ythelkkbjflohgaa.Ds
open Go.RowKit Ut Gr Go.Maps
theorem keep3 {g : Nat} {a b c : Value} {w w' : World} (h : g < w.heap.size ∧ w.cell? ⟨g, 0, none⟩ = some a ∧ w.cell? ⟨g, 1, none⟩ = some b ∧ w.cell? ⟨g, 2, none⟩ = some c) (hB : Below w.heap.size w w') : g < w'.heap.size ∧ w'.cell? ⟨g, 0, none⟩ = some a ∧ w'.cell? ⟨g, 1, none⟩ = some b ∧ w'.cell? ⟨g, 2, none⟩ = some c :=
  ⟨Nat.lt_of_lt_of_le h.1 hB.size, (hB.cell (p := ⟨g, 0, none⟩) h.1).trans h.2.1, (hB.cell (p := ⟨g, 1, none⟩) h.1).trans h.2.2.1, (hB.cell (p := ⟨g, 2, none⟩) h.1).trans h.2.2.2⟩
theorem boxed3 {w w1 : World} {a b c : Value} {t : TypeId} (h : Below (w.alloc (.cells #[a, b, c] t)).heap.size (w.alloc (.cells #[a, b, c] t)) w1) :
    w.heap.size < w1.heap.size ∧ w1.cell? ⟨w.heap.size, 0, none⟩ = some a ∧ w1.cell? ⟨w.heap.size, 1, none⟩ = some b ∧ w1.cell? ⟨w.heap.size, 2, none⟩ = some c :=
  keep3 ⟨by rw [World.size_alloc]; omega, by simp [World.cell?_alloc_new], by simp [World.cell?_alloc_new], by simp [World.cell?_alloc_new]⟩ h
noncomputable def leadsOn (l : List (ByteArray × ByteArray)) (y t : ByteArray) : Bool := decide (t = y) || way l t y
theorem way_of (l : List (ByteArray × ByteArray)) (x y : ByteArray) : (ofL l x).any (leadsOn l y) = way l x y := by
  rw [Bool.eq_iff_iff, way_iff, way_step, List.any_eq_true]
  constructor
  · rintro ⟨t, ht, hb⟩
    unfold leadsOn at hb
    rw [Bool.or_eq_true, decide_eq_true_iff, way_iff] at hb
    exact ⟨t, mem_ofL.1 ht, hb⟩
  · rintro ⟨t, ht, hb⟩
    refine ⟨t, mem_ofL.2 ht, ?_⟩
    unfold leadsOn
    rw [Bool.or_eq_true, decide_eq_true_iff, way_iff]
    exact hb
set_option maxHeartbeats 8000000 in
set_option maxRecDepth 100000 in
theorem ways_any {w : World} {v : Value} {l : List (ByteArray × ByteArray)} (x y z : ByteArray) (hl : Edgs w v l) :
    Calls Try.prog 6 #[v, .agg #[.string x, .string y, .string z]] w fun e w' => e = .returned (.bool true) ∧ Below w.heap.size w w' := by
  have FF := Lib.hid (few_any (w := w.alloc (.cells #[.string x, .string y, .string z] 51)) (hl.below (Below.next_alloc (Below.refl _ _) _)) (strs_nil _))
  have HL := Lib.hid hl
  clear hl
  cases hf : fewB l []
  · rw [hf] at FF
    clear hf
    go_enter Try.func6, Try.ntmps6
    go_wp2_with (first
      | (go_at_call 7; (with_reducible refine FF.out.mono ?_); rintro e w1 ⟨rfl, hB1⟩; have b1 := Lib.hid (next_allocs hB1); clear hB1)
      | (go_at_call 8; (with_reducible refine (awake_any _).mono ?_); rintro e w2 ⟨rfl, hB2⟩; have b2 := Lib.hid (Below.next b1.out hB2); clear hB2))
    go_ret
    exact ⟨rfl, b2.out⟩
  rw [hf] at FF
  obtain ⟨hn, -, hsz, -⟩ := few_iff.1 hf
  clear hf
  by_cases hx : x.size ≤ 30
  rotate_left
  · have hx2 : (30 : Int) < (x.size : Int) := by omega
    clear hsz
    go_enter Try.func6, Try.ntmps6
    go_wp2_with (first
      | (go_at_call 7; (with_reducible refine FF.out.mono ?_); rintro e w1 ⟨rfl, hB1⟩; have b1 := Lib.hid (next_allocs hB1); obtain ⟨hlt, e0, e1, e2⟩ := boxed3 hB1; clear hB1)
      | (go_at_call 8; (with_reducible refine (awake_any _).mono ?_); rintro e w2 ⟨rfl, hB2⟩; have b2 := Lib.hid (Below.next b1.out hB2); clear hB2))
    go_ret
    exact ⟨rfl, b2.out⟩
  have hx2 : ¬ (30 : Int) < (x.size : Int) := by omega
  by_cases hy : y.size ≤ 30
  rotate_left
  · have hy2 : (30 : Int) < (y.size : Int) := by omega
    clear hsz
    go_enter Try.func6, Try.ntmps6
    go_wp2_with (first
      | (go_at_call 7; (with_reducible refine FF.out.mono ?_); rintro e w1 ⟨rfl, hB1⟩; have b1 := Lib.hid (next_allocs hB1); obtain ⟨hlt, e0, e1, e2⟩ := boxed3 hB1; clear hB1)
      | (go_at_call 8; (with_reducible refine (awake_any _).mono ?_); rintro e w2 ⟨rfl, hB2⟩; have b2 := Lib.hid (Below.next b1.out hB2); clear hB2))
    go_ret
    exact ⟨rfl, b2.out⟩
  have hy2 : ¬ (30 : Int) < (y.size : Int) := by omega
  by_cases hzz : z.size ≤ 30
  rotate_left
  · have hz2 : (30 : Int) < (z.size : Int) := by omega
    clear hsz
    go_enter Try.func6, Try.ntmps6
    go_wp2_with (first
      | (go_at_call 7; (with_reducible refine FF.out.mono ?_); rintro e w1 ⟨rfl, hB1⟩; have b1 := Lib.hid (next_allocs hB1); obtain ⟨hlt, e0, e1, e2⟩ := boxed3 hB1; clear hB1)
      | (go_at_call 8; (with_reducible refine (awake_any _).mono ?_); rintro e w2 ⟨rfl, hB2⟩; have b2 := Lib.hid (Below.next b1.out hB2); clear hB2))
    go_ret
    exact ⟨rfl, b2.out⟩
  have hz2 : ¬ (30 : Int) < (z.size : Int) := by omega
  have hz := short_of hsz
  have hym : y.size ≤ maxLen := by unfold maxLen; omega
  have hzm : z.size ≤ maxLen := by unfold maxLen; omega
  have FO := Lib.hid (fun W (hB : Below w.heap.size w W) => ownE_any (w := W) (HL.out.below hB) (by omega))
  have FT := Lib.hid (fun W v' (hE : Edgs W v' l) => of_any (w := W) x hE (by omega))
  have GR := Lib.hid (fun W v' s t (ht : t.size ≤ maxLen) (hE : Edgs W v' l) => reach_any (w := W) s t hE (by omega) hz ht)
  have hlen : (ofL l x).length ≤ 30 := Nat.le_trans (ofL_le l x) hn
  have hw := Lib.hid (way_of l x y)
  have htr := Lib.hid (show way l x y = true → way l y z = true → way l x z = true from fun h k => way_iff.2 ((way_iff.1 h).trans (way_iff.1 k)))
  have hym := Lib.hid hym
  have hzm := Lib.hid hzm
  generalize ofL l x = m at *
  clear hsz hz hn hx hy hzz
  go_enter Try.func6, Try.ntmps6
  go_wp2_with (first
    | (go_at_call 7; (with_reducible refine FF.out.mono ?_); rintro e w1 ⟨rfl, hB1⟩; have b1 := Lib.hid (next_allocs hB1); have K1 := Lib.hid (boxed3 hB1); obtain ⟨hlt, e0, e1, e2⟩ := K1.out; clear hB1)
    | (go_at_call 9; (with_reducible refine (FO.out _ b1.out).mono ?_); rintro e w2 ⟨v2, rfl, hO, hB⟩; have b2 := Lib.hid (Below.next b1.out hB); have E2 := Lib.hid hO.edgs; have K2 := Lib.hid (keep3 K1.out hB); clear hB hO hlt e0 e1 e2; obtain ⟨hlt, e0, e1, e2⟩ := K2.out)
    | (go_at_call 17; (with_reducible refine (FT.out _ _ E2.out).mono ?_); rintro e w3 ⟨v3, rfl, hO, hB⟩; have b3 := Lib.hid (Below.next b2.out hB); have E3 := Lib.hid (E2.out.below hB); have K3 := Lib.hid (keep3 K2.out hB); have T3 := Lib.hid hO; clear hB hO hlt e0 e1 e2; obtain ⟨hlt, e0, e1, e2⟩ := K3.out; obtain ⟨a3, c3, rfl⟩ := T3.out.slice))
  clear b1 b2 K1 K2 E2 FF FO FT
  have FR := Lib.hid (fun W (hB : Below w3.heap.size w3 W) s t (ht : t.size ≤ maxLen) => GR.out W v2 s t ht (E3.out.below hB))
  clear GR
  go_loopw [6, 8] (fun s i wr => ∃ k : Nat, k ≤ m.length ∧ i = .int .i64 k ∧ s = .bool ((m.take k).any (leadsOn l y)) ∧ Hid (Below w3.heap.size w3 wr)) (fun _ i _ => m.length - (intOf i).toNat)
  case atStart => exact ⟨0, by omega, rfl, rfl, Lib.hid (Below.refl _ _)⟩
  case round =>
    obtain ⟨k, hk, rfl, rfl, hB⟩ := hrel
    obtain ⟨hlt2, f0, f1, f2⟩ := keep3 K3.out hB.out
    by_cases hkl : k < m.length
    · have i2 : (k : Int) < (m.length : Int) := by omega
      have i3 : (0 : Int) ≤ (k : Int) := by omega
      obtain ⟨g, cap, hv, -, hg, hcap, hcell⟩ := T3.out.pos (by omega)
      obtain ⟨rfl, -, rfl⟩ := Value.slice.inj hv
      have c0 := hcell k _ (List.getElem?_eq_getElem hkl)
      have hsn := any_snoc (P := leadsOn l y) hkl
      have hP : leadsOn l y m[k] = (decide (m[k] = y) || way l m[k] y) := rfl
      have F := FR.out
      have F := fun W hW => F W hW m[k] y hym.out
      clear hcell hv
      generalize m[k] = t at *
      have SL := Lib.hid (show ∀ W, Below wr.heap.size wr W → W.cell? ⟨w.heap.size, 1, none⟩ = some (.string y) ∧ W.cell? ⟨g, k, none⟩ = some (.string t) from fun W hW =>
        ⟨(hW.cell (p := ⟨w.heap.size, 1, none⟩) hlt2).trans f1, ((hB.out.trans (hW.mono hB.out.size)).cell (p := ⟨g, k, none⟩) hg).trans c0⟩)
      have F := Lib.hid (fun W (hW : Below wr.heap.size wr W) => F W (Below.next hB.out hW))
      have d0 := Lib.hid (show Below wr.heap.size wr wr.drew from (Below.refl _ _).drew)
      clear e0 e1 e2 f0 f1 f2 c0
      replace hsn := Lib.hid hsn
      replace hP := Lib.hid hP
      generalize (m.take k).any (leadsOn l y) = st at *
      cases st
      · by_cases he : t = y
        · have hr := Lib.hid (show (m.take (k + 1)).any (leadsOn l y) = true by rw [hsn.out, hP.out]; simp [he])
          obtain rfl : y = t := he.symm
          have hq : (y.toList == y.toList) = true := by simp
          clear F
          go_wp2
          refine wp_region_held_drew (S := (fun W => W.cell? ⟨w.heap.size, 1, none⟩ = some (.string y) ∧ W.cell? ⟨g, k, none⟩ = some (.string y))) (by kernel_rfl) ?_ (fun hHeld => ?_)
          · exact SL.out _ d0.out
          refine wpAnyH_take (i := 0) (v := ?_) rfl (by kernel_rfl) (by kernel_rfl) (by kernel_rfl) (fun _ _ _ h => h) (Or.inl ⟨by rfl, ?_⟩) hHeld ?_
          rotate_left
          · intro w hSw
            simp only [List.getElem_toArray, List.getElem_cons_zero]
            (try dsimp only at hSw)
            go_simp
            (try with_reducible rfl)
          simp only [Act.put, List.getElem_toArray, List.getElem_cons_zero, List.setIfInBounds_toArray, List.set_cons_zero, List.set_cons_succ]
          refine wpAnyH_take (i := 1) (v := ?_) rfl (by kernel_rfl) (by kernel_rfl) (by kernel_rfl) (fun _ _ _ h => h) (Or.inl ⟨by rfl, ?_⟩) hHeld ?_
          rotate_left
          · intro w hSw
            simp only [List.getElem_toArray, List.getElem_cons_zero, List.getElem_cons_succ]
            (try dsimp only at hSw)
            go_simp
            (try with_reducible rfl)
          simp only [Act.put, List.getElem_toArray, List.getElem_cons_zero, List.getElem_cons_succ, List.setIfInBounds_toArray, List.set_cons_zero, List.set_cons_succ]
          refine wpAnyH_take (i := 2) (v := ?_) rfl (by kernel_rfl) (by kernel_rfl) (by kernel_rfl) (fun _ _ _ h => h) (Or.inl ⟨by rfl, ?_⟩) hHeld ?_
          rotate_left
          · intro w hSw
            simp only [List.getElem_toArray, List.getElem_cons_zero, List.getElem_cons_succ]
            (try dsimp only at hSw)
            go_simp
            (try with_reducible rfl)
          simp only [Act.put, List.getElem_toArray, List.getElem_cons_zero, List.getElem_cons_succ, List.setIfInBounds_toArray, List.set_cons_zero, List.set_cons_succ]
          refine wpAnyH_take (i := 3) (v := ?_) rfl (by kernel_rfl) (by kernel_rfl) (by kernel_rfl) (fun _ _ _ h => h) (Or.inl ⟨by rfl, ?_⟩) hHeld ?_
          rotate_left
          · intro w hSw
            simp only [List.getElem_toArray, List.getElem_cons_zero, List.getElem_cons_succ]
            (try dsimp only at hSw)
            go_simp
            (try with_reducible rfl)
          simp only [Act.put, List.getElem_toArray, List.getElem_cons_zero, List.getElem_cons_succ, List.setIfInBounds_toArray, List.set_cons_zero, List.set_cons_succ]
          refine wpAnyH_take (i := 4) (v := ?_) rfl (by kernel_rfl) (by kernel_rfl) (by kernel_rfl) (fun _ _ _ h => h) (Or.inl ⟨by rfl, ?_⟩) hHeld ?_
          rotate_left
          · intro w hSw
            simp only [List.getElem_toArray, List.getElem_cons_zero, List.getElem_cons_succ]
            (try dsimp only at hSw)
            go_simp
            (try with_reducible rfl)
          simp only [Act.put, List.getElem_toArray, List.getElem_cons_zero, List.getElem_cons_succ, List.setIfInBounds_toArray, List.set_cons_zero, List.set_cons_succ]
          refine wpAnyH_take (i := 5) (v := ?_) rfl (by kernel_rfl) (by kernel_rfl) (by kernel_rfl) (fun _ _ _ h => h) (Or.inl ⟨by rfl, ?_⟩) hHeld ?_
          rotate_left
          · intro w hSw
            simp only [List.getElem_toArray, List.getElem_cons_zero, List.getElem_cons_succ]
            (try dsimp only at hSw)
            go_simp
            (try with_reducible rfl)
          simp only [Act.put, List.getElem_toArray, List.getElem_cons_zero, List.getElem_cons_succ, List.setIfInBounds_toArray, List.set_cons_zero, List.set_cons_succ]
          refine wpAnyH_take (i := 6) (v := ?_) rfl (by kernel_rfl) (by kernel_rfl) (by kernel_rfl) (fun _ _ _ h => h) (Or.inl ⟨by rfl, ?_⟩) hHeld ?_
          rotate_left
          · intro w hSw
            simp only [List.getElem_toArray, List.getElem_cons_zero, List.getElem_cons_succ]
            (try dsimp only at hSw)
            go_simp
            (try with_reducible rfl)
          simp only [Act.put, List.getElem_toArray, List.getElem_cons_zero, List.getElem_cons_succ, List.setIfInBounds_toArray, List.set_cons_zero, List.set_cons_succ]
          refine wpAnyH_take (i := 7) (v := ?_) rfl (by kernel_rfl) (by kernel_rfl) (by kernel_rfl) (fun _ _ _ h => h) (Or.inl ⟨by rfl, ?_⟩) hHeld ?_
          rotate_left
          · intro w hSw
            simp only [List.getElem_toArray, List.getElem_cons_zero, List.getElem_cons_succ]
            (try dsimp only at hSw)
            go_simp
            (try with_reducible rfl)
          simp only [Act.put, List.getElem_toArray, List.getElem_cons_zero, List.getElem_cons_succ, List.setIfInBounds_toArray, List.set_cons_zero, List.set_cons_succ]
          refine wpAnyH_take (i := 8) (v := ?_) rfl (by kernel_rfl) (by kernel_rfl) (by kernel_rfl) (fun _ _ _ h => h) (Or.inl ⟨by rfl, ?_⟩) hHeld ?_
          rotate_left
          · intro w hSw
            simp only [List.getElem_toArray, List.getElem_cons_zero, List.getElem_cons_succ]
            (try dsimp only at hSw)
            go_simp
            (try with_reducible rfl)
          simp only [Act.put, List.getElem_toArray, List.getElem_cons_zero, List.getElem_cons_succ, List.setIfInBounds_toArray, List.set_cons_zero, List.set_cons_succ]
          refine wpAnyH_take (i := 9) (v := ?_) rfl (by kernel_rfl) (by kernel_rfl) (by kernel_rfl) (fun _ _ _ h => h) (Or.inl ⟨by rfl, ?_⟩) hHeld ?_
          rotate_left
          · intro w hSw
            simp only [List.getElem_toArray, List.getElem_cons_zero, List.getElem_cons_succ]
            (try dsimp only at hSw)
            go_simp
            (try with_reducible rfl)
          simp only [Act.put, List.getElem_toArray, List.getElem_cons_zero, List.getElem_cons_succ, List.setIfInBounds_toArray, List.set_cons_zero, List.set_cons_succ]
          refine wpAnyH_take (i := 10) (v := ?_) rfl (by kernel_rfl) (by kernel_rfl) (by kernel_rfl) (fun _ _ _ h => h) (Or.inl ⟨by rfl, ?_⟩) hHeld ?_
          rotate_left
          · intro w hSw
            simp only [List.getElem_toArray, List.getElem_cons_zero, List.getElem_cons_succ]
            (try dsimp only at hSw)
            go_simp
            (try with_reducible rfl)
          simp only [Act.put, List.getElem_toArray, List.getElem_cons_zero, List.getElem_cons_succ, List.setIfInBounds_toArray, List.set_cons_zero, List.set_cons_succ]
          refine wpAnyH_take (i := 11) (v := undef) rfl (by kernel_rfl) (by kernel_rfl) (by kernel_rfl) (fun _ _ _ h => h) (Or.inr ⟨rfl, rfl⟩) hHeld ?_
          simp only [Act.put, List.getElem_toArray, List.getElem_cons_zero, List.getElem_cons_succ, List.setIfInBounds_toArray, List.set_cons_zero, List.set_cons_succ]
          refine wpAnyH_take (i := 12) (v := undef) rfl (by kernel_rfl) (by kernel_rfl) (by kernel_rfl) (fun _ _ _ h => h) (Or.inr ⟨rfl, rfl⟩) hHeld ?_
          simp only [Act.put, List.getElem_toArray, List.getElem_cons_zero, List.getElem_cons_succ, List.setIfInBounds_toArray, List.set_cons_zero, List.set_cons_succ]
          refine wpAnyH_take (i := 13) (v := undef) rfl (by kernel_rfl) (by kernel_rfl) (by kernel_rfl) (fun _ _ _ h => h) (Or.inr ⟨rfl, rfl⟩) hHeld ?_
          simp only [Act.put, List.getElem_toArray, List.getElem_cons_zero, List.getElem_cons_succ, List.setIfInBounds_toArray, List.set_cons_zero, List.set_cons_succ]
          refine wpAnyH_take (i := 14) (v := undef) rfl (by kernel_rfl) (by kernel_rfl) (by kernel_rfl) (fun _ _ _ h => h) (Or.inr ⟨rfl, rfl⟩) hHeld ?_
          simp only [Act.put, List.getElem_toArray, List.getElem_cons_zero, List.getElem_cons_succ, List.setIfInBounds_toArray, List.set_cons_zero, List.set_cons_succ]
          refine wpAnyH_take (i := 15) (v := undef) rfl (by kernel_rfl) (by kernel_rfl) (by kernel_rfl) (fun _ _ _ h => h) (Or.inr ⟨rfl, rfl⟩) hHeld ?_
          simp only [Act.put, List.getElem_toArray, List.getElem_cons_zero, List.getElem_cons_succ, List.setIfInBounds_toArray, List.set_cons_zero, List.set_cons_succ]
          refine wpAnyH_take (i := 16) (v := undef) rfl (by kernel_rfl) (by kernel_rfl) (by kernel_rfl) (fun _ _ _ h => h) (Or.inr ⟨rfl, rfl⟩) hHeld ?_
          simp only [Act.put, List.getElem_toArray, List.getElem_cons_zero, List.getElem_cons_succ, List.setIfInBounds_toArray, List.set_cons_zero, List.set_cons_succ]
          refine wpAnyH_take (i := 17) (v := undef) rfl (by kernel_rfl) (by kernel_rfl) (by kernel_rfl) (fun _ _ _ h => h) (Or.inr ⟨rfl, rfl⟩) hHeld ?_
          simp only [Act.put, List.getElem_toArray, List.getElem_cons_zero, List.getElem_cons_succ, List.setIfInBounds_toArray, List.set_cons_zero, List.set_cons_succ]
          refine wpAnyH_take (i := 18) (v := undef) rfl (by kernel_rfl) (by kernel_rfl) (by kernel_rfl) (fun _ _ _ h => h) (Or.inr ⟨rfl, rfl⟩) hHeld ?_
          simp only [Act.put, List.getElem_toArray, List.getElem_cons_zero, List.getElem_cons_succ, List.setIfInBounds_toArray, List.set_cons_zero, List.set_cons_succ]
          refine wpAnyH_take (i := 19) (v := ?_) rfl (by kernel_rfl) (by kernel_rfl) (by kernel_rfl) (fun _ _ _ h => h) (Or.inl ⟨by rfl, ?_⟩) hHeld ?_
          rotate_left
          · intro w hSw
            simp only [List.getElem_toArray, List.getElem_cons_zero, List.getElem_cons_succ]
            (try dsimp only at hSw)
            go_simp
            (try with_reducible rfl)
          simp only [Act.put, List.getElem_toArray, List.getElem_cons_zero, List.getElem_cons_succ, List.setIfInBounds_toArray, List.set_cons_zero, List.set_cons_succ]
          refine wpAnyH_take (i := 20) (v := ?_) rfl (by kernel_rfl) (by kernel_rfl) (by kernel_rfl) (fun _ _ _ h => h) (Or.inl ⟨by rfl, ?_⟩) hHeld ?_
          rotate_left
          · intro w hSw
            simp only [List.getElem_toArray, List.getElem_cons_zero, List.getElem_cons_succ]
            (try dsimp only at hSw)
            go_simp
            (try with_reducible rfl)
          simp only [Act.put, List.getElem_toArray, List.getElem_cons_zero, List.getElem_cons_succ, List.setIfInBounds_toArray, List.set_cons_zero, List.set_cons_succ]
          refine wpAnyH_done (by kernel_rfl) ?_ _
          have d1 := Lib.hid d0.out
          go_wp2
          go_roundw
          case rel => exact ⟨k + 1, by omega, by go_num, by rw [hr.out], Lib.hid (Below.next hB.out d1.out)⟩
          case measure => simp [intOf]; omega
        · have hq := eqS_no he
          have hr := Lib.hid (show (m.take (k + 1)).any (leadsOn l y) = way l t y by rw [hsn.out, hP.out]; simp [he])
          generalize way l t y = r at *
          clear he
          go_wp2
          refine wp_region_held_drew (S := (fun W => W.cell? ⟨w.heap.size, 1, none⟩ = some (.string y) ∧ W.cell? ⟨g, k, none⟩ = some (.string t))) (by kernel_rfl) ?_ (fun hHeld => ?_)
          · exact SL.out _ d0.out
          refine wpAnyH_take (i := 0) (v := ?_) rfl (by kernel_rfl) (by kernel_rfl) (by kernel_rfl) (fun _ _ _ h => h) (Or.inl ⟨by rfl, ?_⟩) hHeld ?_
          rotate_left
          · intro w hSw
            simp only [List.getElem_toArray, List.getElem_cons_zero]
            (try dsimp only at hSw)
            go_simp
            (try with_reducible rfl)
          simp only [Act.put, List.getElem_toArray, List.getElem_cons_zero, List.setIfInBounds_toArray, List.set_cons_zero, List.set_cons_succ]
          refine wpAnyH_take (i := 1) (v := ?_) rfl (by kernel_rfl) (by kernel_rfl) (by kernel_rfl) (fun _ _ _ h => h) (Or.inl ⟨by rfl, ?_⟩) hHeld ?_
          rotate_left
          · intro w hSw
            simp only [List.getElem_toArray, List.getElem_cons_zero, List.getElem_cons_succ]
            (try dsimp only at hSw)
            go_simp
            (try with_reducible rfl)
          simp only [Act.put, List.getElem_toArray, List.getElem_cons_zero, List.getElem_cons_succ, List.setIfInBounds_toArray, List.set_cons_zero, List.set_cons_succ]
          refine wpAnyH_take (i := 2) (v := ?_) rfl (by kernel_rfl) (by kernel_rfl) (by kernel_rfl) (fun _ _ _ h => h) (Or.inl ⟨by rfl, ?_⟩) hHeld ?_
          rotate_left
          · intro w hSw
            simp only [List.getElem_toArray, List.getElem_cons_zero, List.getElem_cons_succ]
            (try dsimp only at hSw)
            go_simp
            (try with_reducible rfl)
          simp only [Act.put, List.getElem_toArray, List.getElem_cons_zero, List.getElem_cons_succ, List.setIfInBounds_toArray, List.set_cons_zero, List.set_cons_succ]
          refine wpAnyH_take (i := 3) (v := ?_) rfl (by kernel_rfl) (by kernel_rfl) (by kernel_rfl) (fun _ _ _ h => h) (Or.inl ⟨by rfl, ?_⟩) hHeld ?_
          rotate_left
          · intro w hSw
            simp only [List.getElem_toArray, List.getElem_cons_zero, List.getElem_cons_succ]
            (try dsimp only at hSw)
            go_simp
            (try with_reducible rfl)
          simp only [Act.put, List.getElem_toArray, List.getElem_cons_zero, List.getElem_cons_succ, List.setIfInBounds_toArray, List.set_cons_zero, List.set_cons_succ]
          refine wpAnyH_take (i := 4) (v := ?_) rfl (by kernel_rfl) (by kernel_rfl) (by kernel_rfl) (fun _ _ _ h => h) (Or.inl ⟨by rfl, ?_⟩) hHeld ?_
          rotate_left
          · intro w hSw
            simp only [List.getElem_toArray, List.getElem_cons_zero, List.getElem_cons_succ]
            (try dsimp only at hSw)
            go_simp
            (try with_reducible rfl)
          simp only [Act.put, List.getElem_toArray, List.getElem_cons_zero, List.getElem_cons_succ, List.setIfInBounds_toArray, List.set_cons_zero, List.set_cons_succ]
          refine wpAnyH_take (i := 5) (v := ?_) rfl (by kernel_rfl) (by kernel_rfl) (by kernel_rfl) (fun _ _ _ h => h) (Or.inl ⟨by rfl, ?_⟩) hHeld ?_
          rotate_left
          · intro w hSw
            simp only [List.getElem_toArray, List.getElem_cons_zero, List.getElem_cons_succ]
            (try dsimp only at hSw)
            go_simp
            (try with_reducible rfl)
          simp only [Act.put, List.getElem_toArray, List.getElem_cons_zero, List.getElem_cons_succ, List.setIfInBounds_toArray, List.set_cons_zero, List.set_cons_succ]
          refine wpAnyH_take (i := 6) (v := ?_) rfl (by kernel_rfl) (by kernel_rfl) (by kernel_rfl) (fun _ _ _ h => h) (Or.inl ⟨by rfl, ?_⟩) hHeld ?_
          rotate_left
          · intro w hSw
            simp only [List.getElem_toArray, List.getElem_cons_zero, List.getElem_cons_succ]
            (try dsimp only at hSw)
            go_simp
            (try with_reducible rfl)
          simp only [Act.put, List.getElem_toArray, List.getElem_cons_zero, List.getElem_cons_succ, List.setIfInBounds_toArray, List.set_cons_zero, List.set_cons_succ]
          refine wpAnyH_take (i := 7) (v := ?_) rfl (by kernel_rfl) (by kernel_rfl) (by kernel_rfl) (fun _ _ _ h => h) (Or.inl ⟨by rfl, ?_⟩) hHeld ?_
          rotate_left
          · intro w hSw
            simp only [List.getElem_toArray, List.getElem_cons_zero, List.getElem_cons_succ]
            (try dsimp only at hSw)
            go_simp
            (try with_reducible rfl)
          simp only [Act.put, List.getElem_toArray, List.getElem_cons_zero, List.getElem_cons_succ, List.setIfInBounds_toArray, List.set_cons_zero, List.set_cons_succ]
          refine wpAnyH_take (i := 8) (v := ?_) rfl (by kernel_rfl) (by kernel_rfl) (by kernel_rfl) (fun _ _ _ h => h) (Or.inl ⟨by rfl, ?_⟩) hHeld ?_
          rotate_left
          · intro w hSw
            simp only [List.getElem_toArray, List.getElem_cons_zero, List.getElem_cons_succ]
            (try dsimp only at hSw)
            go_simp
            (try with_reducible rfl)
          simp only [Act.put, List.getElem_toArray, List.getElem_cons_zero, List.getElem_cons_succ, List.setIfInBounds_toArray, List.set_cons_zero, List.set_cons_succ]
          refine wpAnyH_take (i := 9) (v := ?_) rfl (by kernel_rfl) (by kernel_rfl) (by kernel_rfl) (fun _ _ _ h => h) (Or.inl ⟨by rfl, ?_⟩) hHeld ?_
          rotate_left
          · intro w hSw
            simp only [List.getElem_toArray, List.getElem_cons_zero, List.getElem_cons_succ]
            (try dsimp only at hSw)
            go_simp
            (try with_reducible rfl)
          simp only [Act.put, List.getElem_toArray, List.getElem_cons_zero, List.getElem_cons_succ, List.setIfInBounds_toArray, List.set_cons_zero, List.set_cons_succ]
          refine wpAnyH_take (i := 10) (v := ?_) rfl (by kernel_rfl) (by kernel_rfl) (by kernel_rfl) (fun _ _ _ h => h) (Or.inl ⟨by rfl, ?_⟩) hHeld ?_
          rotate_left
          · intro w hSw
            simp only [List.getElem_toArray, List.getElem_cons_zero, List.getElem_cons_succ]
            (try dsimp only at hSw)
            go_simp
            (try with_reducible rfl)
          simp only [Act.put, List.getElem_toArray, List.getElem_cons_zero, List.getElem_cons_succ, List.setIfInBounds_toArray, List.set_cons_zero, List.set_cons_succ]
          refine wpAnyH_take (i := 11) (v := ?_) rfl (by kernel_rfl) (by kernel_rfl) (by kernel_rfl) (fun _ _ _ h => h) (Or.inl ⟨by rfl, ?_⟩) hHeld ?_
          rotate_left
          · intro w hSw
            simp only [List.getElem_toArray, List.getElem_cons_zero, List.getElem_cons_succ]
            (try dsimp only at hSw)
            go_simp
            (try with_reducible rfl)
          simp only [Act.put, List.getElem_toArray, List.getElem_cons_zero, List.getElem_cons_succ, List.setIfInBounds_toArray, List.set_cons_zero, List.set_cons_succ]
          refine wpAnyH_take (i := 12) (v := ?_) rfl (by kernel_rfl) (by kernel_rfl) (by kernel_rfl) (fun _ _ _ h => h) (Or.inl ⟨by rfl, ?_⟩) hHeld ?_
          rotate_left
          · intro w hSw
            simp only [List.getElem_toArray, List.getElem_cons_zero, List.getElem_cons_succ]
            (try dsimp only at hSw)
            go_simp
            (try with_reducible rfl)
          simp only [Act.put, List.getElem_toArray, List.getElem_cons_zero, List.getElem_cons_succ, List.setIfInBounds_toArray, List.set_cons_zero, List.set_cons_succ]
          refine wpAnyH_take (i := 13) (v := ?_) rfl (by kernel_rfl) (by kernel_rfl) (by kernel_rfl) (fun _ _ _ h => h) (Or.inl ⟨by rfl, ?_⟩) hHeld ?_
          rotate_left
          · intro w hSw
            simp only [List.getElem_toArray, List.getElem_cons_zero, List.getElem_cons_succ]
            (try dsimp only at hSw)
            go_simp
            (try with_reducible rfl)
          simp only [Act.put, List.getElem_toArray, List.getElem_cons_zero, List.getElem_cons_succ, List.setIfInBounds_toArray, List.set_cons_zero, List.set_cons_succ]
          refine wpAnyH_take (i := 14) (v := ?_) rfl (by kernel_rfl) (by kernel_rfl) (by kernel_rfl) (fun _ _ _ h => h) (Or.inl ⟨by rfl, ?_⟩) hHeld ?_
          rotate_left
          · intro w hSw
            simp only [List.getElem_toArray, List.getElem_cons_zero, List.getElem_cons_succ]
            (try dsimp only at hSw)
            go_simp
            (try with_reducible rfl)
          simp only [Act.put, List.getElem_toArray, List.getElem_cons_zero, List.getElem_cons_succ, List.setIfInBounds_toArray, List.set_cons_zero, List.set_cons_succ]
          refine wpAnyH_take (i := 15) (v := ?_) rfl (by kernel_rfl) (by kernel_rfl) (by kernel_rfl) (fun _ _ _ h => h) (Or.inl ⟨by rfl, ?_⟩) hHeld ?_
          rotate_left
          · intro w hSw
            simp only [List.getElem_toArray, List.getElem_cons_zero, List.getElem_cons_succ]
            (try dsimp only at hSw)
            go_simp
            (try with_reducible rfl)
          simp only [Act.put, List.getElem_toArray, List.getElem_cons_zero, List.getElem_cons_succ, List.setIfInBounds_toArray, List.set_cons_zero, List.set_cons_succ]
          refine wpAnyH_take (i := 16) (v := ?_) rfl (by kernel_rfl) (by kernel_rfl) (by kernel_rfl) (fun _ _ _ h => h) (Or.inl ⟨by rfl, ?_⟩) hHeld ?_
          rotate_left
          · intro w hSw
            simp only [List.getElem_toArray, List.getElem_cons_zero, List.getElem_cons_succ]
            (try dsimp only at hSw)
            go_simp
            (try with_reducible rfl)
          simp only [Act.put, List.getElem_toArray, List.getElem_cons_zero, List.getElem_cons_succ, List.setIfInBounds_toArray, List.set_cons_zero, List.set_cons_succ]
          refine wpAnyH_take (i := 17) (v := ?_) rfl (by kernel_rfl) (by kernel_rfl) (by kernel_rfl) (fun _ _ _ h => h) (Or.inl ⟨by rfl, ?_⟩) hHeld ?_
          rotate_left
          · intro w hSw
            simp only [List.getElem_toArray, List.getElem_cons_zero, List.getElem_cons_succ]
            (try dsimp only at hSw)
            go_simp
            (try with_reducible rfl)
          simp only [Act.put, List.getElem_toArray, List.getElem_cons_zero, List.getElem_cons_succ, List.setIfInBounds_toArray, List.set_cons_zero, List.set_cons_succ]
          refine wpAnyH_ready (rs := [18]) (by kernel_rfl) (by simp) ?_
          refine AllReadyH.cons (o := _) rfl (fun K hK => ?_) AllReadyH.nil
          simp only [List.getElem_toArray, List.getElem_cons_zero, List.getElem_cons_succ]
          rw [if_pos (by rfl)]
          go_simp
          (go_at_call 13; (with_reducible refine (F.out _ d0.out).mono ?_); rintro e y1 ⟨rfl, hB⟩; have d1 := Lib.hid (Below.next d0.out hB); clear hB)
          refine hK.out _ _ ?_ (fun hHeld => ?_)
          · exact SL.out _ d1.out
          clear hK K
          refine wpAnyH_take (i := 19) (v := ?_) rfl (by kernel_rfl) (by kernel_rfl) (by kernel_rfl) (fun _ _ _ h => h) (Or.inl ⟨by rfl, ?_⟩) hHeld ?_
          rotate_left
          · intro w hSw
            simp only [List.getElem_toArray, List.getElem_cons_zero, List.getElem_cons_succ]
            (try dsimp only at hSw)
            go_simp
            (try with_reducible rfl)
          simp only [Act.put, List.getElem_toArray, List.getElem_cons_zero, List.getElem_cons_succ, List.setIfInBounds_toArray, List.set_cons_zero, List.set_cons_succ]
          refine wpAnyH_take (i := 20) (v := ?_) rfl (by kernel_rfl) (by kernel_rfl) (by kernel_rfl) (fun _ _ _ h => h) (Or.inl ⟨by rfl, ?_⟩) hHeld ?_
          rotate_left
          · intro w hSw
            simp only [List.getElem_toArray, List.getElem_cons_zero, List.getElem_cons_succ]
            (try dsimp only at hSw)
            go_simp
            (try with_reducible rfl)
          simp only [Act.put, List.getElem_toArray, List.getElem_cons_zero, List.getElem_cons_succ, List.setIfInBounds_toArray, List.set_cons_zero, List.set_cons_succ]
          refine wpAnyH_done (by kernel_rfl) ?_ _
          go_wp2
          go_roundw
          case rel => exact ⟨k + 1, by omega, by go_num, by rw [hr.out], Lib.hid (Below.next hB.out d1.out)⟩
          case measure => simp [intOf]; omega
      · have hr := Lib.hid (show (m.take (k + 1)).any (leadsOn l y) = true by rw [hsn.out]; rfl)
        clear F
        go_wp2
        refine wp_region_held_drew (S := (fun W => W.cell? ⟨w.heap.size, 1, none⟩ = some (.string y) ∧ W.cell? ⟨g, k, none⟩ = some (.string t))) (by kernel_rfl) ?_ (fun hHeld => ?_)
        · exact SL.out _ d0.out
        refine wpAnyH_take (i := 0) (v := ?_) rfl (by kernel_rfl) (by kernel_rfl) (by kernel_rfl) (fun _ _ _ h => h) (Or.inl ⟨by rfl, ?_⟩) hHeld ?_
        rotate_left
        · intro w hSw
          simp only [List.getElem_toArray, List.getElem_cons_zero]
          (try dsimp only at hSw)
          go_simp
          (try with_reducible rfl)
        simp only [Act.put, List.getElem_toArray, List.getElem_cons_zero, List.setIfInBounds_toArray, List.set_cons_zero, List.set_cons_succ]
        refine wpAnyH_take (i := 1) (v := ?_) rfl (by kernel_rfl) (by kernel_rfl) (by kernel_rfl) (fun _ _ _ h => h) (Or.inl ⟨by rfl, ?_⟩) hHeld ?_
        rotate_left
        · intro w hSw
          simp only [List.getElem_toArray, List.getElem_cons_zero, List.getElem_cons_succ]
          (try dsimp only at hSw)
          go_simp
          (try with_reducible rfl)
        simp only [Act.put, List.getElem_toArray, List.getElem_cons_zero, List.getElem_cons_succ, List.setIfInBounds_toArray, List.set_cons_zero, List.set_cons_succ]
        refine wpAnyH_take (i := 2) (v := undef) rfl (by kernel_rfl) (by kernel_rfl) (by kernel_rfl) (fun _ _ _ h => h) (Or.inr ⟨rfl, rfl⟩) hHeld ?_
        simp only [Act.put, List.getElem_toArray, List.getElem_cons_zero, List.getElem_cons_succ, List.setIfInBounds_toArray, List.set_cons_zero, List.set_cons_succ]
        refine wpAnyH_take (i := 3) (v := undef) rfl (by kernel_rfl) (by kernel_rfl) (by kernel_rfl) (fun _ _ _ h => h) (Or.inr ⟨rfl, rfl⟩) hHeld ?_
        simp only [Act.put, List.getElem_toArray, List.getElem_cons_zero, List.getElem_cons_succ, List.setIfInBounds_toArray, List.set_cons_zero, List.set_cons_succ]
        refine wpAnyH_take (i := 4) (v := undef) rfl (by kernel_rfl) (by kernel_rfl) (by kernel_rfl) (fun _ _ _ h => h) (Or.inr ⟨rfl, rfl⟩) hHeld ?_
        simp only [Act.put, List.getElem_toArray, List.getElem_cons_zero, List.getElem_cons_succ, List.setIfInBounds_toArray, List.set_cons_zero, List.set_cons_succ]
        refine wpAnyH_take (i := 5) (v := undef) rfl (by kernel_rfl) (by kernel_rfl) (by kernel_rfl) (fun _ _ _ h => h) (Or.inr ⟨rfl, rfl⟩) hHeld ?_
        simp only [Act.put, List.getElem_toArray, List.getElem_cons_zero, List.getElem_cons_succ, List.setIfInBounds_toArray, List.set_cons_zero, List.set_cons_succ]
        refine wpAnyH_take (i := 6) (v := undef) rfl (by kernel_rfl) (by kernel_rfl) (by kernel_rfl) (fun _ _ _ h => h) (Or.inr ⟨rfl, rfl⟩) hHeld ?_
        simp only [Act.put, List.getElem_toArray, List.getElem_cons_zero, List.getElem_cons_succ, List.setIfInBounds_toArray, List.set_cons_zero, List.set_cons_succ]
        refine wpAnyH_take (i := 7) (v := undef) rfl (by kernel_rfl) (by kernel_rfl) (by kernel_rfl) (fun _ _ _ h => h) (Or.inr ⟨rfl, rfl⟩) hHeld ?_
        simp only [Act.put, List.getElem_toArray, List.getElem_cons_zero, List.getElem_cons_succ, List.setIfInBounds_toArray, List.set_cons_zero, List.set_cons_succ]
        refine wpAnyH_take (i := 8) (v := undef) rfl (by kernel_rfl) (by kernel_rfl) (by kernel_rfl) (fun _ _ _ h => h) (Or.inr ⟨rfl, rfl⟩) hHeld ?_
        simp only [Act.put, List.getElem_toArray, List.getElem_cons_zero, List.getElem_cons_succ, List.setIfInBounds_toArray, List.set_cons_zero, List.set_cons_succ]
        refine wpAnyH_take (i := 9) (v := ?_) rfl (by kernel_rfl) (by kernel_rfl) (by kernel_rfl) (fun _ _ _ h => h) (Or.inl ⟨by rfl, ?_⟩) hHeld ?_
        rotate_left
        · intro w hSw
          simp only [List.getElem_toArray, List.getElem_cons_zero, List.getElem_cons_succ]
          (try dsimp only at hSw)
          go_simp
          (try with_reducible rfl)
        simp only [Act.put, List.getElem_toArray, List.getElem_cons_zero, List.getElem_cons_succ, List.setIfInBounds_toArray, List.set_cons_zero, List.set_cons_succ]
        refine wpAnyH_take (i := 10) (v := ?_) rfl (by kernel_rfl) (by kernel_rfl) (by kernel_rfl) (fun _ _ _ h => h) (Or.inl ⟨by rfl, ?_⟩) hHeld ?_
        rotate_left
        · intro w hSw
          simp only [List.getElem_toArray, List.getElem_cons_zero, List.getElem_cons_succ]
          (try dsimp only at hSw)
          go_simp
          (try with_reducible rfl)
        simp only [Act.put, List.getElem_toArray, List.getElem_cons_zero, List.getElem_cons_succ, List.setIfInBounds_toArray, List.set_cons_zero, List.set_cons_succ]
        refine wpAnyH_take (i := 11) (v := undef) rfl (by kernel_rfl) (by kernel_rfl) (by kernel_rfl) (fun _ _ _ h => h) (Or.inr ⟨rfl, rfl⟩) hHeld ?_
        simp only [Act.put, List.getElem_toArray, List.getElem_cons_zero, List.getElem_cons_succ, List.setIfInBounds_toArray, List.set_cons_zero, List.set_cons_succ]
        refine wpAnyH_take (i := 12) (v := undef) rfl (by kernel_rfl) (by kernel_rfl) (by kernel_rfl) (fun _ _ _ h => h) (Or.inr ⟨rfl, rfl⟩) hHeld ?_
        simp only [Act.put, List.getElem_toArray, List.getElem_cons_zero, List.getElem_cons_succ, List.setIfInBounds_toArray, List.set_cons_zero, List.set_cons_succ]
        refine wpAnyH_take (i := 13) (v := undef) rfl (by kernel_rfl) (by kernel_rfl) (by kernel_rfl) (fun _ _ _ h => h) (Or.inr ⟨rfl, rfl⟩) hHeld ?_
        simp only [Act.put, List.getElem_toArray, List.getElem_cons_zero, List.getElem_cons_succ, List.setIfInBounds_toArray, List.set_cons_zero, List.set_cons_succ]
        refine wpAnyH_take (i := 14) (v := undef) rfl (by kernel_rfl) (by kernel_rfl) (by kernel_rfl) (fun _ _ _ h => h) (Or.inr ⟨rfl, rfl⟩) hHeld ?_
        simp only [Act.put, List.getElem_toArray, List.getElem_cons_zero, List.getElem_cons_succ, List.setIfInBounds_toArray, List.set_cons_zero, List.set_cons_succ]
        refine wpAnyH_take (i := 15) (v := undef) rfl (by kernel_rfl) (by kernel_rfl) (by kernel_rfl) (fun _ _ _ h => h) (Or.inr ⟨rfl, rfl⟩) hHeld ?_
        simp only [Act.put, List.getElem_toArray, List.getElem_cons_zero, List.getElem_cons_succ, List.setIfInBounds_toArray, List.set_cons_zero, List.set_cons_succ]
        refine wpAnyH_take (i := 16) (v := undef) rfl (by kernel_rfl) (by kernel_rfl) (by kernel_rfl) (fun _ _ _ h => h) (Or.inr ⟨rfl, rfl⟩) hHeld ?_
        simp only [Act.put, List.getElem_toArray, List.getElem_cons_zero, List.getElem_cons_succ, List.setIfInBounds_toArray, List.set_cons_zero, List.set_cons_succ]
        refine wpAnyH_take (i := 17) (v := undef) rfl (by kernel_rfl) (by kernel_rfl) (by kernel_rfl) (fun _ _ _ h => h) (Or.inr ⟨rfl, rfl⟩) hHeld ?_
        simp only [Act.put, List.getElem_toArray, List.getElem_cons_zero, List.getElem_cons_succ, List.setIfInBounds_toArray, List.set_cons_zero, List.set_cons_succ]
        refine wpAnyH_take (i := 18) (v := undef) rfl (by kernel_rfl) (by kernel_rfl) (by kernel_rfl) (fun _ _ _ h => h) (Or.inr ⟨rfl, rfl⟩) hHeld ?_
        simp only [Act.put, List.getElem_toArray, List.getElem_cons_zero, List.getElem_cons_succ, List.setIfInBounds_toArray, List.set_cons_zero, List.set_cons_succ]
        refine wpAnyH_take (i := 19) (v := ?_) rfl (by kernel_rfl) (by kernel_rfl) (by kernel_rfl) (fun _ _ _ h => h) (Or.inl ⟨by rfl, ?_⟩) hHeld ?_
        rotate_left
        · intro w hSw
          simp only [List.getElem_toArray, List.getElem_cons_zero, List.getElem_cons_succ]
          (try dsimp only at hSw)
          go_simp
          (try with_reducible rfl)
        simp only [Act.put, List.getElem_toArray, List.getElem_cons_zero, List.getElem_cons_succ, List.setIfInBounds_toArray, List.set_cons_zero, List.set_cons_succ]
        refine wpAnyH_take (i := 20) (v := ?_) rfl (by kernel_rfl) (by kernel_rfl) (by kernel_rfl) (fun _ _ _ h => h) (Or.inl ⟨by rfl, ?_⟩) hHeld ?_
        rotate_left
        · intro w hSw
          simp only [List.getElem_toArray, List.getElem_cons_zero, List.getElem_cons_succ]
          (try dsimp only at hSw)
          go_simp
          (try with_reducible rfl)
        simp only [Act.put, List.getElem_toArray, List.getElem_cons_zero, List.getElem_cons_succ, List.setIfInBounds_toArray, List.set_cons_zero, List.set_cons_succ]
        refine wpAnyH_done (by kernel_rfl) ?_ _
        have d1 := Lib.hid d0.out
        go_wp2
        go_roundw
        case rel => exact ⟨k + 1, by omega, by go_num, by rw [hr.out], Lib.hid (Below.next hB.out d1.out)⟩
        case measure => simp [intOf]; omega
    · have hk2 : (m.take k).any (leadsOn l y) = way l x y := by rw [List.take_of_length_le (by omega)]; exact hw.out
      rw [hk2]
      clear hk2 T3
      have R01 := Lib.hid (fun W (hW : Below w3.heap.size w3 W) => FR.out W hW x y hym.out)
      have R12 := Lib.hid (fun W (hW : Below w3.heap.size w3 W) => FR.out W hW y z hzm.out)
      have R02 := Lib.hid (fun W (hW : Below w3.heap.size w3 W) => FR.out W hW x z hzm.out)
      have tr := htr.out
      clear htr FR hw
      generalize way l x y = r1 at *
      generalize way l y z = r2 at *
      generalize way l x z = r3 at *
      cases r1
      · clear tr
        go_wp2_with (first
          | (go_at_call 13; (with_reducible refine (R01.out _ hB.out).mono ?_); rintro e y1 ⟨rfl, hB1⟩; have d1 := Lib.hid (Below.next hB.out hB1); clear e0 e1 e2; obtain ⟨hlt3, e0, e1, e2⟩ := keep3 ⟨hlt2, f0, f1, f2⟩ hB1; clear hB1)
          | (go_at_call 13; (with_reducible refine (R12.out _ d1.out).mono ?_); rintro e y2 ⟨rfl, hB1⟩; have d2 := Lib.hid (Below.next d1.out hB1); clear f0 f1 f2 hlt2; obtain ⟨hlt2, f0, f1, f2⟩ := keep3 ⟨hlt3, e0, e1, e2⟩ hB1; clear hB1)
          | (go_at_call 13; (with_reducible refine (R02.out _ d2.out).mono ?_); rintro e y3 ⟨rfl, hB1⟩; have d3 := Lib.hid (Below.next d2.out hB1); clear hB1)
          | (go_at_call 8; (with_reducible refine (awake_any _).mono ?_); rintro e y4 ⟨rfl, hB1⟩; have d4 := Lib.hid (Below.next d1.out hB1); clear hB1))
        go_ret
        exact ⟨rfl, Below.next b3.out d4.out⟩
      · cases r2
        · clear tr
          go_wp2_with (first
            | (go_at_call 13; (with_reducible refine (R01.out _ hB.out).mono ?_); rintro e y1 ⟨rfl, hB1⟩; have d1 := Lib.hid (Below.next hB.out hB1); clear e0 e1 e2; obtain ⟨hlt3, e0, e1, e2⟩ := keep3 ⟨hlt2, f0, f1, f2⟩ hB1; clear hB1)
            | (go_at_call 13; (with_reducible refine (R12.out _ d1.out).mono ?_); rintro e y2 ⟨rfl, hB1⟩; have d2 := Lib.hid (Below.next d1.out hB1); clear f0 f1 f2 hlt2; obtain ⟨hlt2, f0, f1, f2⟩ := keep3 ⟨hlt3, e0, e1, e2⟩ hB1; clear hB1)
            | (go_at_call 13; (with_reducible refine (R02.out _ d2.out).mono ?_); rintro e y3 ⟨rfl, hB1⟩; have d3 := Lib.hid (Below.next d2.out hB1); clear hB1)
            | (go_at_call 8; (with_reducible refine (awake_any _).mono ?_); rintro e y4 ⟨rfl, hB1⟩; have d4 := Lib.hid (Below.next d2.out hB1); clear hB1))
          go_ret
          exact ⟨rfl, Below.next b3.out d4.out⟩
        · obtain rfl := tr rfl rfl
          clear tr
          go_wp2_with (first
            | (go_at_call 13; (with_reducible refine (R01.out _ hB.out).mono ?_); rintro e y1 ⟨rfl, hB1⟩; have d1 := Lib.hid (Below.next hB.out hB1); clear e0 e1 e2; obtain ⟨hlt3, e0, e1, e2⟩ := keep3 ⟨hlt2, f0, f1, f2⟩ hB1; clear hB1)
            | (go_at_call 13; (with_reducible refine (R12.out _ d1.out).mono ?_); rintro e y2 ⟨rfl, hB1⟩; have d2 := Lib.hid (Below.next d1.out hB1); clear f0 f1 f2 hlt2; obtain ⟨hlt2, f0, f1, f2⟩ := keep3 ⟨hlt3, e0, e1, e2⟩ hB1; clear hB1)
            | (go_at_call 13; (with_reducible refine (R02.out _ d2.out).mono ?_); rintro e y3 ⟨rfl, hB1⟩; have d3 := Lib.hid (Below.next d2.out hB1); clear hB1)
            | (go_at_call 8; (with_reducible refine (awake_any _).mono ?_); rintro e y4 ⟨rfl, hB1⟩; have d4 := Lib.hid (Below.next d3.out hB1); clear hB1))
          go_ret
          exact ⟨rfl, Below.next b3.out d4.out⟩
end Go.Proofs.Ythelkkbjflohgaa.Ds

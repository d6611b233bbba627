import Derived.Test.YtkbohijlhhpfbaaGreatDoorVZn
/- The walk through errandlaw26's candidate (printed by gen_cand.py). -/
namespace Go.Proofs.YtkbohijlhhpfbaaGreatDoor.Rs
open Go.RowKit Ru Ut Cw Ra Xp
set_option maxHeartbeats 16000000 in
set_option maxRecDepth 100000 in
theorem cand_ok (w : World) (SV RQ : Array Value) (t sec freq itv uk us wk i f m : Int) (b res : Bool) (G : World → Value → Prop) (hSR : RQ.size = 15) (hB : ∀ (j : Nat) (v : Value), RQ.toList[j]? = some v → SV[2 + j]? = some v) (h1 : SV[1]? = some (.int .i64 sec))
  (r0 : RQ[0]? = some (.int .u8 freq)) (r1 : RQ[1]? = some (.int .i64 itv)) (r3 : RQ[3]? = some (.int .u8 uk)) (r4 : RQ[4]? = some (.int .i64 us)) (r14 : RQ[14]? = some (.int .i64 wk)) (one : RQ.all (·.oneCell') = true)
  (F1 : ∀ W, Below w.heap.size w W → Calls Tryz.prog 61 #[.int .u8 freq, .int .i64 wk, .int .i64 t] W fun e w' => e = .returned (.int .i64 i) ∧ W = w')
  (F2 : ∀ W, Below w.heap.size w W → Calls Tryz.prog 61 #[.int .u8 freq, .int .i64 wk, .int .i64 sec] W fun e w' => e = .returned (.int .i64 f) ∧ W = w')
  (FO : ∀ W, Below w.heap.size w W → Calls Tryz.prog 17 #[.agg RQ, .int .i64 sec, .int .i64 i] W fun e w' => ∃ v, e = .returned v ∧ G w' v ∧ Below W.heap.size W w')
  (FH : ∀ W v, G W v → Calls Tryz.prog 44 #[v, .int .i64 t] W fun e w' => e = .returned (.bool b) ∧ W = w')
  (i1 : 1 ≤ itv) (i2 : itv ≤ 1000) (H : (t < sec ∧ res = false) ∨ (sec ≤ t ∧ (uk != 0) = true ∧ us < t ∧ res = false) ∨ (sec ≤ t ∧ (uk = 0 ∨ ((uk != 0) = true ∧ t ≤ us)) ∧ 0 ≤ f ∧ f ≤ i ∧ i ≤ 1000000000000 ∧ (i - f).tmod itv = m ∧ (((m != 0) = true ∧ res = false) ∨ ((m != 0) = false ∧ res = b)))) : Calls Tryz.prog 30 #[.agg SV, .int .i64 t] w fun e w' => e = .returned (.bool res) ∧ Below w.heap.size w w' := by
 replace F1 := Lib.hid F1
 replace F2 := Lib.hid F2
 replace FO := Lib.hid FO
 replace FH := Lib.hid FH
 go_enter Tryz.func30, Tryz.ntmps30
 go_wp2
 have K0 : ∀ j, (w.alloc (.cells SV 48)).cell? ⟨w.heap.size, j, none⟩ = SV[j]? := fun j => World.cell?_alloc_new w SV _ j
 have B0 := Lib.hid (Below.next_alloc (Below.refl _ w) (.cells SV 48))
 have Z0 : (w.alloc (.cells SV 48)).heap.size = w.heap.size + 1 := by simp
 generalize w.alloc (.cells SV 48) = W0 at *
 have KB : ∀ W, Below W0.heap.size W0 W → ∀ j, W.cell? ⟨w.heap.size, j, none⟩ = SV[j]? := fun W hW j => (hW.cell (p := ⟨w.heap.size, j, none⟩) (by simp; omega)).trans (K0 j)
 have RB := Lib.hid (fun W (hW : Below W0.heap.size W0 W) => (show W.rangeAt w.heap.size 2 RQ.toList from fun j v hv => (KB W hW _).trans (hB j v hv)))
 have RC := Lib.hid (fun W (hW : Below W0.heap.size W0 W) => (KB W hW 1).trans h1)
 have hR := Lib.hid (show (Tryz.prog.info? 33).map (·.size) = some RQ.toList.length by rw [Array.length_toList, hSR]; kernel_rfl)
 replace K0 := Lib.hid K0
 replace KB := Lib.hid KB
 replace hB := Lib.hid hB
 refine wp_region_held_drew (S := fun W => Below W0.heap.size W0 W) (by kernel_rfl) ((Below.refl _ _).drew) (fun hH0 => ?_)
 refine wpAnyH_take (i := 0) (oi := _) (v := ?v0) rfl (by kernel_rfl) (by kernel_rfl) (by kernel_rfl) (fun _ _ _ h => h) (Or.inl ⟨by rfl, ?hy0⟩) hH0 ?_
 case hy0 => (intro w hSw; go_simp; with_reducible rfl)
 simp only [Act.put, List.setIfInBounds_toArray, List.set_cons_zero, List.set_cons_succ, List.getElem_toArray, List.getElem_cons_zero]
 refine wpAnyH_take (i := 1) (oi := _) (v := .agg (List.toArray RQ.toList)) rfl (by kernel_rfl) (by kernel_rfl) (by kernel_rfl) (fun _ _ _ h => h) (yieldsIf_load_mid (by rfl) _ _ rfl w.heap.size 2 rfl RQ.toList _ (fun W hW => RB.out W hW) Tryz.underlying33 rfl hR.out) hH0 ?_
 simp only [Act.put, List.setIfInBounds_toArray, List.set_cons_zero, List.set_cons_succ, List.getElem_toArray, List.getElem_cons_succ, List.getElem_cons_zero, Array.toArray_toList]
 refine wpAnyH_take (i := 2) (oi := _) (v := ?v2) rfl (by kernel_rfl) (by kernel_rfl) (by kernel_rfl) (fun _ _ _ h => h) (Or.inl ⟨by rfl, ?hy2⟩) hH0 ?_
 case hy2 => (intro w hSw; go_simp; with_reducible rfl)
 simp only [Act.put, List.setIfInBounds_toArray, List.set_cons_zero, List.set_cons_succ, List.getElem_toArray, List.getElem_cons_succ, List.getElem_cons_zero]
 refine wpAnyH_take (i := 3) (oi := _) (v := ?v3) rfl (by kernel_rfl) (by kernel_rfl) (by kernel_rfl) (fun _ _ _ h => h) (Or.inl ⟨by rfl, ?hy3⟩) hH0 ?_
 case hy3 => (intro w hSw; go_simp; with_reducible rfl)
 simp only [Act.put, List.setIfInBounds_toArray, List.set_cons_zero, List.set_cons_succ, List.getElem_toArray, List.getElem_cons_succ, List.getElem_cons_zero]
 refine wpAnyH_take (i := 4) (oi := _) (v := ?v4) rfl (by kernel_rfl) (by kernel_rfl) (by kernel_rfl) (fun _ _ _ h => h) (Or.inl ⟨by rfl, ?hy4⟩) hH0 ?_
 case hy4 => (intro W hSw; have hc := RC.out W hSw; go_simp; with_reducible rfl)
 simp only [Act.put, List.setIfInBounds_toArray, List.set_cons_zero, List.set_cons_succ, List.getElem_toArray, List.getElem_cons_succ, List.getElem_cons_zero]
 refine wpAnyH_ready (rs := [5]) (by kernel_rfl) (by simp) ?_
 refine AllReadyH.cons (o := _) rfl (fun K hK => ?_) AllReadyH.nil
 go_simp
 skip
 refine hK.out _ _ ?_ (fun hH1 => ?_)
 case _ => exact (by (repeat' (first|assumption|exact Below.refl _ _|apply Below.next_alloc|apply Below.drew|(apply Below.next;rotate_left;assumption))))
 clear hK K
 have S2 : Below W0.heap.size W0 (((W0.alloc (.cells #[.int .u8 0, .int .i64 0, .int .i64 0, .int .u8 0, .int .i64 0, .slice none 0 0, .slice none 0 0, .slice none 0 0, .slice none 0 0, .slice none 0 0, .slice none 0 0, .slice none 0 0, .slice none 0 0, .slice none 0 0, .int .i64 0] 33)).drew).setRow (w.heap.size + 1) RQ) := Below.trans (by (repeat' (first|assumption|exact Below.refl _ _|apply Below.next_alloc|apply Below.drew|(apply Below.next;rotate_left;assumption)))) (below_setRow _ _ _ (by omega))
 have hHH : ((W0.alloc (.cells #[.int .u8 0, .int .i64 0, .int .i64 0, .int .u8 0, .int .i64 0, .slice none 0 0, .slice none 0 0, .slice none 0 0, .slice none 0 0, .slice none 0 0, .slice none 0 0, .slice none 0 0, .slice none 0 0, .slice none 0 0, .int .i64 0] 33)).drew).heap[w.heap.size + 1]? = some (.cells #[.int .u8 0, .int .i64 0, .int .i64 0, .int .u8 0, .int .i64 0, .slice none 0 0, .slice none 0 0, .slice none 0 0, .slice none 0 0, .slice none 0 0, .slice none 0 0, .slice none 0 0, .slice none 0 0, .slice none 0 0, .int .i64 0] 33 (0, 0)) := by
  rw [← Z0]; exact heap_alloc_last W0 _
 have hrow := setRow_heap ((W0.alloc (.cells #[.int .u8 0, .int .i64 0, .int .i64 0, .int .u8 0, .int .i64 0, .slice none 0 0, .slice none 0 0, .slice none 0 0, .slice none 0 0, .slice none 0 0, .slice none 0 0, .slice none 0 0, .slice none 0 0, .slice none 0 0, .int .i64 0] 33)).drew) (w.heap.size + 1) _ RQ _ _ hHH
 have Z1 : (((W0.alloc (.cells #[.int .u8 0, .int .i64 0, .int .i64 0, .int .u8 0, .int .i64 0, .slice none 0 0, .slice none 0 0, .slice none 0 0, .slice none 0 0, .slice none 0 0, .slice none 0 0, .slice none 0 0, .slice none 0 0, .slice none 0 0, .int .i64 0] 33)).drew).setRow (w.heap.size + 1) RQ).heap.size = w.heap.size + 2 := by
  rw [setRow_size]
  show (W0.alloc _).heap.size = _
  rw [World.size_alloc]; omega
 refine wpAnyH_ready (rs := [6]) (by kernel_rfl) (by simp) ?_
 refine AllReadyH.cons (o := _) rfl (fun K hK => ?_) AllReadyH.nil
 rw [if_pos (by rfl)]
 refine wp_store_at (t := 33) (c := #[.int .u8 0, .int .i64 0, .int .i64 0, .int .u8 0, .int .i64 0, .slice none 0 0, .slice none 0 0, .slice none 0 0, .slice none 0 0, .slice none 0 0, .slice none 0 0, .slice none 0 0, .slice none 0 0, .slice none 0 0, .int .i64 0]) (by rfl) _ _ _ rfl RQ (w.heap.size + 1) rfl hHH rfl (by rw [hSR]; kernel_rfl) (by rw [hSR]; rfl) one ?_
 refine hK.out _ _ ?_ (fun hH2 => ?_)
 case _ => exact S2
 clear hK K
 try simp only [Act.put, List.setIfInBounds_toArray, List.set_cons_zero, List.set_cons_succ, List.getElem_toArray, List.getElem_cons_succ, List.getElem_cons_zero]
 refine wpAnyH_take (i := 7) (oi := _) (v := ?v7) rfl (by kernel_rfl) (by kernel_rfl) (by kernel_rfl) (fun _ _ _ h => h) (Or.inl ⟨by rfl, ?hy7⟩) hH2 ?_
 case hy7 => (intro w hSw; go_simp; with_reducible rfl)
 simp only [Act.put, List.setIfInBounds_toArray, List.set_cons_zero, List.set_cons_succ, List.getElem_toArray, List.getElem_cons_succ, List.getElem_cons_zero]
 refine wpAnyH_done (by kernel_rfl) ?_ _
 clear hH0 hH1 hH2
 generalize World.setRow _ _ _ = W1 at *
 have CR : ∀ W, Below W1.heap.size W1 W → ∀ j, W.cell? ⟨w.heap.size + 1, j, none⟩ = RQ[j]? := fun W hW j => (hW.cell (p := ⟨w.heap.size + 1, j, none⟩) (by simp; omega)).trans (cell_of_row W1 (w.heap.size + 1) j RQ _ _ hrow)
 have c0 := (CR W1 (Below.refl _ _) 0).trans r0
 have c1 := (CR W1 (Below.refl _ _) 1).trans r1
 have c3 := (CR W1 (Below.refl _ _) 3).trans r3
 have c4 := (CR W1 (Below.refl _ _) 4).trans r4
 have c14 := (CR W1 (Below.refl _ _) 14).trans r14
 have RR := Lib.hid (fun W (hW : Below W1.heap.size W1 W) => (show W.rangeAt (w.heap.size + 1) 0 RQ.toList from fun j v hv => by rw [Nat.zero_add, CR W hW j]; simpa using hv))
 have hRa := Lib.hid (show (Tryz.prog.info? 33).map (·.size) = some RQ.size by rw [hSR]; kernel_rfl)
 have B1 := Lib.hid (Below.next B0.out S2)
 clear CR hrow S2 r0 r1 r3 r4 r14 h1 hSR hB one RB RC KB K0 hR
 rcases H with ⟨hlt, rfl⟩ | ⟨hlt, hu, hus, rfl⟩ | ⟨hlt, hu, f0, fi, ib, hm, hm0⟩
 rotate_left 2
 ·rcases hu with rfl | ⟨hu, hus⟩ <;> rcases hm0 with ⟨hm0, rfl⟩ | ⟨hm0, rfl⟩
  all_goals
   as_aux_lemma =>
   go_wp2
   have G1 := Lib.hid (fun n => F1.out (W1.drewN n) (Below.next B1.out (Base.below_drewN (Below.refl _ W1) n)))
   have G2 := Lib.hid (fun n => F2.out (W1.drewN n) (Below.next B1.out (Base.below_drewN (Below.refl _ W1) n)))
   go_quiet (first | (go_at_call 61; with_reducible exact Base.qsame (G1.out _)) | (go_at_call 61; with_reducible exact Base.qsame (G2.out _)))
   have BQ := Base.below_drewN (Below.refl W1.heap.size W1) nq
   go_wp2_with (first
    | (refine wpList_load_arr rfl 33 _ rfl (w.heap.size + 1) 0 rfl RQ _ (RR.out _ (by (repeat' (first|assumption|exact Below.refl _ _|apply Below.next_alloc|apply Below.drew|(apply Below.next;rotate_left;assumption))))) Tryz.underlying33 rfl hRa.out ?_)
    | (go_at_call 17; (with_reducible refine (FO.out _ (Below.next B1.out (by (repeat' (first|assumption|exact Below.refl _ _|apply Below.next_alloc|apply Below.drew|(apply Below.next;rotate_left;assumption)))))).mono ?_); rintro e w1 ⟨v, rfl, hG, hC1⟩)
    | (go_at_call 44; (with_reducible refine (FH.out _ _ hG).mono ?_); rintro e w2 ⟨rfl, rfl⟩))
   go_ret
   exact ⟨rfl, Below.next B1.out (by (repeat' (first|assumption|exact Below.refl _ _|apply Below.next_alloc|apply Below.drew|(apply Below.next;rotate_left;assumption))))⟩
 all_goals
  go_wp2
  go_ret
  exact ⟨rfl, B1.out⟩
end Go.Proofs.YtkbohijlhhpfbaaGreatDoor.Rs
/- The walk through errandlaw26's rank (printed by gen_rank.py). -/
namespace Go.Proofs.YtkbohijlhhpfbaaGreatDoor.Rs
open Go.RowKit Ru Ut Cw Ra Xp
def cntF (sec t : Int) (l : List Int) : Nat := (l.filter fun x => decide (sec ≤ x) && decide (x ≤ t)).length
def rankF (sec t last itv : Int) (L : Int → List Int) : Nat → Int → Nat
 | 0, _ => 0
 | n + 1, i => if last < i then 0 else cntF sec t (L i) + rankF sec t last itv L n (i + itv)
theorem rankF_step (sec t last itv : Int) (L : Int → List Int) (m : Nat) (i : Int) (h : i ≤ last) : rankF sec t last itv L (m + 1) i = cntF sec t (L i) + rankF sec t last itv L m (i + itv) := by
 rw [rankF, if_neg (by omega)]
theorem rankF_end (sec t last itv : Int) (L : Int → List Int) (m : Nat) (i : Int) (h : last < i) : rankF sec t last itv L m i = 0 := by
 cases m with
 | zero => rfl
 | succ m => rw [rankF, if_pos h]
theorem cntF_snoc (sec t : Int) {l : List Int} {k : Nat} (hk : k < l.length) : cntF sec t (l.take (k + 1)) = cntF sec t (l.take k) + if sec ≤ l[k] ∧ l[k] ≤ t then 1 else 0 := by
 unfold cntF
 rw [List.take_succ_eq_append_getElem hk, List.filter_append, List.length_append]
 congr 1
 by_cases h : sec ≤ l[k] ∧ l[k] ≤ t
 ·rw [if_pos h]; simp [h.1, h.2]
 ·rw [if_neg h]
  have hd : (decide (sec ≤ l[k]) && decide (l[k] ≤ t)) = false := by
   rw [Bool.eq_false_iff]; intro hh; simp only [Bool.and_eq_true, decide_eq_true_eq] at hh; exact h hh
  rw [List.filter_cons_of_neg (by simp [hd])]; rfl
theorem rank_step {first itv I : Int} {j : Nat} (h : I = first + j * itv) : I + itv = first + (j + 1 : Nat) * itv := by
 rw [h, Int.natCast_add, Int.add_mul]; omega
theorem rank_j {first last itv q : Int} {j : Nat} (i1 : 1 ≤ itv) (fl : first ≤ last) (hq : (last - first).tdiv itv = q) (hq3 : q ≤ 300) (h : first + j * itv ≤ last) : j ≤ 300 := by
 rw [Int.tdiv_eq_ediv_of_nonneg (by omega)] at hq
 have : (j : Int) ≤ (last - first) / itv := Int.le_ediv_of_mul_le (by omega) (by omega)
 omega
set_option maxHeartbeats 8000000 in
set_option maxRecDepth 100000 in
theorem rank_far (w : World) (SV RQ : Array Value) (t sec freq itv wk first last q : Int) (L : Int → List Int) (hSR : RQ.size = 15) (hB : ∀ (j : Nat) (v : Value), RQ.toList[j]? = some v → SV[2 + j]? = some v) (h1 : SV[1]? = some (.int .i64 sec))
  (r0 : RQ[0]? = some (.int .u8 freq)) (r1 : RQ[1]? = some (.int .i64 itv)) (r14 : RQ[14]? = some (.int .i64 wk)) (one : RQ.all (·.oneCell') = true)
  (F1 : ∀ W, Below w.heap.size w W → Calls Tryz.prog 61 #[.int .u8 freq, .int .i64 wk, .int .i64 sec] W fun e w' => e = .returned (.int .i64 first) ∧ W = w')
  (F2 : ∀ W, Below w.heap.size w W → Calls Tryz.prog 61 #[.int .u8 freq, .int .i64 wk, .int .i64 t] W fun e w' => e = .returned (.int .i64 last) ∧ W = w')
  (FO : ∀ i W, Below w.heap.size w W → Calls Tryz.prog 17 #[.agg RQ, .int .i64 sec, .int .i64 i] W fun e w' => ∃ v, e = .returned v ∧ Ints w' v (L i) ∧ Below W.heap.size W w')
  (i1 : 1 ≤ itv) (i2 : itv ≤ 1000) (f0 : 0 ≤ first) (fl : first ≤ last) (lb : last ≤ 1000000000000) (hq : (last - first).tdiv itv = q) (q0 : 0 ≤ q) (q1 : q ≤ 1000000000000) (hq3 : 300 < q) : Calls Tryz.prog 31 #[.agg SV, .int .i64 t] w fun e w' => e = .returned (.int .i64 0) ∧ Below w.heap.size w w' := by
 replace F1 := Lib.hid F1
 replace F2 := Lib.hid F2
 replace FO := Lib.hid FO
 have hR := Lib.hid (show (Tryz.prog.info? 33).map (·.size) = some RQ.size by rw [hSR]; kernel_rfl)
 have RB : (w.alloc (.cells SV 48)).rangeAt w.heap.size 2 RQ.toList := fun j v hv => (World.cell?_alloc_new w SV _ _).trans (hB j v hv)
 replace RB := Lib.hid RB
 go_enter Tryz.func31, Tryz.ntmps31
 go_wp2_with (first
  | (refine wpList_load_arr rfl 33 _ rfl w.heap.size 2 rfl RQ _ RB.out Tryz.underlying33 rfl hR.out ?_)
  | (refine wpList_store_new rfl 33 _ _ rfl RQ (w.heap.size + 1) rfl (by simp) rfl hR.out (by rw [hSR]; rfl) one ?_))
 have KS : ∀ j, ((w.alloc (.cells SV 48)).alloc (.cells RQ 33)).cell? ⟨w.heap.size, j, none⟩ = SV[j]? := fun j => (World.cell?_alloc_lt _ _ _ (by simp)).trans (World.cell?_alloc_new w SV _ j)
 have KR : ∀ j, ((w.alloc (.cells SV 48)).alloc (.cells RQ 33)).cell? ⟨w.heap.size + 1, j, none⟩ = RQ[j]? := fun j => World.cell?_alloc_at RQ _ _ j (by simp)
 have B1 := Lib.hid (Below.next_alloc (Below.next_alloc (Below.refl _ w) (.cells SV 48)) (.cells RQ 33))
 have Z1 : ((w.alloc (.cells SV 48)).alloc (.cells RQ 33)).heap.size = w.heap.size + 2 := by simp
 generalize World.alloc _ (.cells RQ 33) = W1 at *
 have CR : ∀ W, Below W1.heap.size W1 W → ∀ j, W.cell? ⟨w.heap.size + 1, j, none⟩ = RQ[j]? := fun W hW j => (hW.cell (p := ⟨w.heap.size + 1, j, none⟩) (by simp; omega)).trans (KR j)
 have CS := Lib.hid (fun W (hW : Below W1.heap.size W1 W) => (show W.cell? ⟨w.heap.size, 1, none⟩ = some (.int .i64 sec) from (hW.cell (p := ⟨w.heap.size, 1, none⟩) (by simp; omega)).trans ((KS 1).trans h1)))
 have RR := Lib.hid (fun W (hW : Below W1.heap.size W1 W) => (show W.rangeAt (w.heap.size + 1) 0 RQ.toList from fun j v hv => by rw [Nat.zero_add, CR W hW j]; simpa using hv))
 have hRa := hR
 have C1 := Lib.hid (fun W (hW : Below W1.heap.size W1 W) => (CR W hW 1).trans r1)
 have c0 := (CR W1 (Below.refl _ _) 0).trans r0
 have c1 := (CR W1 (Below.refl _ _) 1).trans r1
 have c14 := (CR W1 (Below.refl _ _) 14).trans r14
 have s1 := CS.out W1 (Below.refl _ _)
 clear KS KR CR hB h1 r0 r1 r14 one RB hSR
 have G1 := Lib.hid (fun n => F1.out (W1.drewN n) (Below.next B1.out (Base.below_drewN (Below.refl _ W1) n)))
 have G2 := Lib.hid (fun n => F2.out (W1.drewN n) (Below.next B1.out (Base.below_drewN (Below.refl _ W1) n)))
 go_quiet (first | (go_at_call 61; with_reducible exact Base.qsame (G1.out _)) | (go_at_call 61; with_reducible exact Base.qsame (G2.out _)))
 have BQ := Base.below_drewN (Below.refl W1.heap.size W1) nq
 go_wp2
 go_ret
 exact ⟨rfl, Below.next B1.out BQ⟩
set_option maxHeartbeats 8000000 in
set_option maxRecDepth 100000 in
theorem rank_ok (w : World) (SV RQ : Array Value) (t sec freq itv wk first last q : Int) (L : Int → List Int) (hSR : RQ.size = 15) (hB : ∀ (j : Nat) (v : Value), RQ.toList[j]? = some v → SV[2 + j]? = some v) (h1 : SV[1]? = some (.int .i64 sec))
  (r0 : RQ[0]? = some (.int .u8 freq)) (r1 : RQ[1]? = some (.int .i64 itv)) (r14 : RQ[14]? = some (.int .i64 wk)) (one : RQ.all (·.oneCell') = true)
  (F1 : ∀ W, Below w.heap.size w W → Calls Tryz.prog 61 #[.int .u8 freq, .int .i64 wk, .int .i64 sec] W fun e w' => e = .returned (.int .i64 first) ∧ W = w')
  (F2 : ∀ W, Below w.heap.size w W → Calls Tryz.prog 61 #[.int .u8 freq, .int .i64 wk, .int .i64 t] W fun e w' => e = .returned (.int .i64 last) ∧ W = w')
  (FO : ∀ i W, Below w.heap.size w W → Calls Tryz.prog 17 #[.agg RQ, .int .i64 sec, .int .i64 i] W fun e w' => ∃ v, e = .returned v ∧ Ints w' v (L i) ∧ Below W.heap.size W w') (hLn : ∀ i, (L i).length ≤ 3999)
  (i1 : 1 ≤ itv) (i2 : itv ≤ 1000) (f0 : 0 ≤ first) (fl : first ≤ last) (lb : last ≤ 1000000000000) (hq : (last - first).tdiv itv = q) (q0 : 0 ≤ q) (q1 : q ≤ 1000000000000) (hq3 : q ≤ 300) (F : Nat) (hF : (last - first).toNat < F) : Calls Tryz.prog 31 #[.agg SV, .int .i64 t] w fun e w' => e = .returned (.int .i64 (rankF sec t last itv L F first : Nat)) ∧ Below w.heap.size w w' := by
 replace F1 := Lib.hid F1
 replace F2 := Lib.hid F2
 replace FO := Lib.hid FO
 have hR := Lib.hid (show (Tryz.prog.info? 33).map (·.size) = some RQ.size by rw [hSR]; kernel_rfl)
 have RB : (w.alloc (.cells SV 48)).rangeAt w.heap.size 2 RQ.toList := fun j v hv => (World.cell?_alloc_new w SV _ _).trans (hB j v hv)
 replace RB := Lib.hid RB
 go_enter Tryz.func31, Tryz.ntmps31
 go_wp2_with (first
  | (refine wpList_load_arr rfl 33 _ rfl w.heap.size 2 rfl RQ _ RB.out Tryz.underlying33 rfl hR.out ?_)
  | (refine wpList_store_new rfl 33 _ _ rfl RQ (w.heap.size + 1) rfl (by simp) rfl hR.out (by rw [hSR]; rfl) one ?_))
 have KS : ∀ j, ((w.alloc (.cells SV 48)).alloc (.cells RQ 33)).cell? ⟨w.heap.size, j, none⟩ = SV[j]? := fun j => (World.cell?_alloc_lt _ _ _ (by simp)).trans (World.cell?_alloc_new w SV _ j)
 have KR : ∀ j, ((w.alloc (.cells SV 48)).alloc (.cells RQ 33)).cell? ⟨w.heap.size + 1, j, none⟩ = RQ[j]? := fun j => World.cell?_alloc_at RQ _ _ j (by simp)
 have B1 := Lib.hid (Below.next_alloc (Below.next_alloc (Below.refl _ w) (.cells SV 48)) (.cells RQ 33))
 have Z1 : ((w.alloc (.cells SV 48)).alloc (.cells RQ 33)).heap.size = w.heap.size + 2 := by simp
 generalize World.alloc _ (.cells RQ 33) = W1 at *
 have CR : ∀ W, Below W1.heap.size W1 W → ∀ j, W.cell? ⟨w.heap.size + 1, j, none⟩ = RQ[j]? := fun W hW j => (hW.cell (p := ⟨w.heap.size + 1, j, none⟩) (by simp; omega)).trans (KR j)
 have CS := Lib.hid (fun W (hW : Below W1.heap.size W1 W) => (show W.cell? ⟨w.heap.size, 1, none⟩ = some (.int .i64 sec) from (hW.cell (p := ⟨w.heap.size, 1, none⟩) (by simp; omega)).trans ((KS 1).trans h1)))
 have RR := Lib.hid (fun W (hW : Below W1.heap.size W1 W) => (show W.rangeAt (w.heap.size + 1) 0 RQ.toList from fun j v hv => by rw [Nat.zero_add, CR W hW j]; simpa using hv))
 have hRa := hR
 have C1 := Lib.hid (fun W (hW : Below W1.heap.size W1 W) => (CR W hW 1).trans r1)
 have c0 := (CR W1 (Below.refl _ _) 0).trans r0
 have c1 := (CR W1 (Below.refl _ _) 1).trans r1
 have c14 := (CR W1 (Below.refl _ _) 14).trans r14
 have s1 := CS.out W1 (Below.refl _ _)
 clear KS KR CR hB h1 r0 r1 r14 one RB hSR
 have G1 := Lib.hid (fun n => F1.out (W1.drewN n) (Below.next B1.out (Base.below_drewN (Below.refl _ W1) n)))
 have G2 := Lib.hid (fun n => F2.out (W1.drewN n) (Below.next B1.out (Base.below_drewN (Below.refl _ W1) n)))
 go_quiet (first | (go_at_call 61; with_reducible exact Base.qsame (G1.out _)) | (go_at_call 61; with_reducible exact Base.qsame (G2.out _)))
 have BQ := Base.below_drewN (Below.refl W1.heap.size W1) nq
 have hjq := Lib.hid (fun (j : Nat) (h : first + j * itv ≤ last) => rank_j i1 fl hq hq3 h)
 have hSt := Lib.hid (fun (j : Nat) (I : Int) (h : I = first + j * itv) => rank_step h)
 have hRS := Lib.hid (fun (m : Nat) (I : Int) (h : I ≤ last) => rankF_step sec t last itv L m I h)
 have hRE := Lib.hid (fun (m : Nat) (I : Int) (h : last < I) => rankF_end sec t last itv L m I h)
 have BQh := Lib.hid BQ
 have hR0 := Lib.hid (show ∃ m : Nat, 0 + rankF sec t last itv L m first = rankF sec t last itv L F first ∧ (last < first ∨ (last - first).toNat < m) from ⟨F, Nat.zero_add _, .inr hF⟩)
 obtain ⟨R, hRR⟩ : ∃ R, R = rankF sec t last itv L F first := ⟨_, rfl⟩
 rw [← hRR] at hR0
 replace hRR := Lib.hid hRR
 clear hF
 go_wp2
 clear hq hq3
 go_loopw [8, 9] (fun vn vi wr => ∃ (j c : Nat) (I : Int), vn = .int .i64 c ∧ vi = .int .i64 I ∧ Hid (I = first + j * itv) ∧ first ≤ I ∧ I ≤ last + 1000 ∧ c ≤ 4000 * j ∧ j ≤ 301 ∧ Hid (∃ m : Nat, c + rankF sec t last itv L m I = R ∧ (last < I ∨ (last - I).toNat < m)) ∧ Hid (Below W1.heap.size W1 wr)) (fun vn vi _ => (last + 1 - intOf vi).toNat)
 case atStart => exact ⟨0, 0, first, rfl, rfl, Lib.hid (by omega), by omega, by omega, by omega, by omega, hR0, BQh⟩
 case round =>
  obtain ⟨j, c, I, rfl, rfl, hI, hI1, hI2, hc, hj, hm, hB⟩ := hrel
  obtain ⟨wo, rfl⟩ : ∃ q, q = wr := ⟨_, rfl⟩
  clear c0 c1 c14 s1 BQ
  have c1 := C1.out wo hB.out
  have s1 := CS.out wo hB.out
  have hBB := hB.out
  by_cases hle : I ≤ last
  ·have hj3 := hjq.out j (by rw [← hI.out]; exact hle)
   have hI' := Lib.hid (hSt.out j I hI.out)
   have hln := hLn I
   obtain ⟨m, hm1, hm2⟩ := hm.out
   have hmm : m ≠ 0 := by omega
   obtain ⟨m, rfl⟩ := Nat.exists_eq_succ_of_ne_zero hmm
   have hnx := hRS.out m I hle
   rw [hnx] at hm1
   replace hm := Lib.hid (show ∃ m : Nat, (c + cntF sec t (L I)) + rankF sec t last itv L m (I + itv) = R ∧ (last < I + itv ∨ (last - (I + itv)).toNat < m) from ⟨m, by omega, by omega⟩)
   clear hm1 hm2 hmm hnx
   go_wp2_with (first
    | (refine wpList_load_arr rfl 33 _ rfl (w.heap.size + 1) 0 rfl RQ _ (RR.out _ (by (repeat' (first|assumption|exact Below.refl _ _|apply Below.next_alloc|apply Below.drew|(apply Below.next;rotate_left;assumption))))) Tryz.underlying33 rfl hRa.out ?_)
    | (go_at_call 17; (with_reducible refine (FO.out I _ (Below.next B1.out (by (repeat' (first|assumption|exact Below.refl _ _|apply Below.next_alloc|apply Below.drew|(apply Below.next;rotate_left;assumption)))))).mono ?_); rintro e w1 ⟨v, rfl, hG, hC1⟩; obtain ⟨a, cp, hv⟩ := Xp.ints_slice hG; have hA := Lib.hid (fun W (hW : Below w1.heap.size w1 W) k (hk : k < (L I).length) => Xp.ints_at hG hv hW hk); subst hv; replace hG := Lib.hid hG))
   have hB1 := Lib.hid (Below.next hBB hC1)
   clear c1 s1 hBB hC1
   generalize L I = l at *
   go_loopw [8, 11] (fun vn vk wr => ∃ (k c2 : Nat), k ≤ l.length ∧ vk = .int .i64 k ∧ vn = .int .i64 c2 ∧ c2 ≤ c + k ∧ Hid (c2 = c + cntF sec t (l.take k)) ∧ Hid (Below w1.heap.size w1 wr)) (fun vn vk _ => l.length - (intOf vk).toNat)
   case atStart => exact ⟨0, c, by omega, rfl, rfl, by omega, Lib.hid (by simp [cntF]), Lib.hid (Below.refl _ _)⟩
   case round =>
    obtain ⟨k, c2, hk, rfl, rfl, hc2, hcn, hwr⟩ := hrel
    have hB2 := Lib.hid (Below.next hB1.out hwr.out)
    have c1 := C1.out wr hB2.out
    have s1 := CS.out wr hB2.out
    by_cases hlt : k < l.length
    ·obtain ⟨b, o, rfl, hb, hcell, hcap⟩ := hA.out wr hwr.out k hlt
     have hsn := cntF_snoc sec t hlt
     generalize l[k] = y at *
     by_cases hy1 : sec ≤ y
     ·by_cases hy2 : y ≤ t
      ·rw [if_pos ⟨hy1, hy2⟩] at hsn
       have hcn2 := Lib.hid (show c2 + 1 = c + cntF sec t (l.take (k + 1)) by rw [hsn, hcn.out]; omega)
       clear hsn hcn
       go_wp2
       go_quiet (fail)
       go_wp2
       go_roundw
       case rel => exact ⟨k + 1, c2 + 1, by omega, by go_num, by go_num, by omega, hcn2, Lib.hid (Base.below_drewN hwr.out _)⟩
       case measure => simp [intOf]; omega
      ·rw [if_neg (fun h => hy2 h.2)] at hsn
       have hcn2 := Lib.hid (show c2 = c + cntF sec t (l.take (k + 1)) by rw [hsn, hcn.out]; omega)
       clear hsn hcn
       go_wp2
       go_quiet (fail)
       go_wp2
       go_roundw
       case rel => exact ⟨k + 1, c2, by omega, by go_num, rfl, by omega, hcn2, Lib.hid (Base.below_drewN hwr.out _)⟩
       case measure => simp [intOf]; omega
     ·rw [if_neg (fun h => hy1 h.1)] at hsn
      have hyd : decide (sec ≤ y) = false := decide_eq_false hy1
      have hcn2 := Lib.hid (show c2 = c + cntF sec t (l.take (k + 1)) by rw [hsn, hcn.out]; omega)
      clear hsn hcn
      go_wp2
      go_quiet (fail)
      go_wp2
      go_roundw
      case rel => exact ⟨k + 1, c2, by omega, by go_num, rfl, by omega, hcn2, Lib.hid (Base.below_drewN hwr.out _)⟩
      case measure => simp [intOf]; omega
    ·have hfin : c2 = c + cntF sec t l := by have := hcn.out; rwa [List.take_of_length_le (by omega)] at this
     rw [← hfin] at hm
     go_wp2
     go_roundw
     case rel => exact ⟨j + 1, c2, I + itv, rfl, rfl, hI', by omega, by omega, by omega, by omega, hm, hB2⟩
     case measure => simp [intOf]; omega
  ·have hRc : (c : Int) = R := by
    obtain ⟨m, hm1, -⟩ := hm.out
    rw [hRE.out m I (by omega)] at hm1
    omega
   replace hRc := Lib.hid hRc
   go_wp2
   go_ret
   exact ⟨by show Ending.returned (.int .i64 (c : Int)) = _; rw [hRc.out, hRR.out], Below.next B1.out hB.out⟩
end Go.Proofs.YtkbohijlhhpfbaaGreatDoor.Rs

/- The walk through errandlaw26's Own (printed by gen_sown.py). -/
import Derived.Test.YtkbohijlhhpfbaaGreatDoorVZi
import Derived.Test.YtkbohijlhhpfbaaGreatDoorVZk
import Derived.Test.YtkbohijlhhpfbaaGreatDoorVZn
namespace Go.Proofs.YtkbohijlhhpfbaaGreatDoor.Rs
open Go.RowKit Ru Ut Cw Ra Xp
theorem OwnV.moved {W W' : World} {B m : Nat} {v : Value} {l : List (Int × Int)} (h : OwnV W B v l) (hk : ∀ k, k ≠ m → W'.heap[k]? = W.heap[k]?) (hm : m < B) : OwnV W' B v l := ownsRow_moved h hk hm
def GivesNQ (w : World) (s : St) (e : Ending) (w' : World) : Prop := ∃ a c, e = .returned (.agg (ruleC s.rule (svQ s.rule a c))) ∧ ListsN w' w.heap.size s.rule (svQ s.rule a c) ∧ Below w.heap.size w w'
theorem givesNQ {w : World} {s : St} {e : Ending} {w' : World} (h : GivesN w s.rule e w') : GivesNQ w s e w' := by
 obtain ⟨sv, rfl, hN, hB⟩ := h
 have hL := hN.lists
 have hs : ∀ q, ∃ a, ∃ c, 4 ≤ q → q ≤ 12 → sv q = .slice a (ln s.rule q) c := fun q => by
  by_cases hq : 4 ≤ q ∧ q ≤ 12
  ·by_cases h7 : q = 7
   ·subst h7
    rcases hL.2 with ⟨h0, a, c, e, _⟩ | ⟨_, b, o, c, e, _⟩
    ·exact ⟨a, c, fun _ _ => by rw [e]; unfold ln; rw [if_pos rfl, h0]; rfl⟩
    ·exact ⟨_, c, fun _ _ => by rw [e]; unfold ln; rw [if_pos rfl]⟩
   ·obtain ⟨a, c, e⟩ := ints_slice (hL.1 q hq.1 hq.2 h7)
    exact ⟨a, c, fun _ _ => by rw [e]; unfold ln; rw [if_neg h7]⟩
  ·exact ⟨none, 0, fun h1 h2 => absurd ⟨h1, h2⟩ hq⟩
 obtain ⟨a, ha⟩ := Classical.axiomOfChoice hs
 obtain ⟨c, hc⟩ := Classical.axiomOfChoice ha
 refine ⟨a, c, ?_, ⟨fun q h4 h12 h7 => ?_, ?_⟩, hB⟩
 ·unfold ruleV ruleC
  rw [hc 4 (by decide) (by decide), hc 5 (by decide) (by decide), hc 6 (by decide) (by decide), hc 7 (by decide) (by decide), hc 8 (by decide) (by decide), hc 9 (by decide) (by decide), hc 10 (by decide) (by decide), hc 11 (by decide) (by decide), hc 12 (by decide) (by decide)]
  rfl
 ·have h := hN.1 q h4 h12 h7
  rw [hc q h4 h12] at h
  exact h
 ·have h := hN.2
  rw [hc 7 (by decide) (by decide)] at h
  exact h
def GivesS (w : World) (s : St) (e : Ending) (w' : World) : Prop := ∃ p u, e = .returned (.agg (setQ s p u)) ∧ LS w' s (svQ s.rule p u) (.slice (p 13) s.inn.length (u 13)) (.slice (p 14) s.out.length (u 14)) ∧ Below w.heap.size w w'
set_option maxHeartbeats 16000000 in
set_option maxRecDepth 100000 in
theorem ownS_walk (w : World) (s : St) (C RQ : Array Value) (ai ao : Option Addr) (ci co : Nat) (hCA : ∀ (j : Nat) (v : Value), ([.int .u8 s.kind, .int .i64 s.sec] : List Value)[j]? = some v → C[0 + j]? = some v) (hCB : ∀ (j : Nat) (v : Value), RQ.toList[j]? = some v → C[2 + j]? = some v) (hCI : C[17]? = some (.slice ai s.inn.length ci)) (hCO : C[18]? = some (.slice ao s.out.length co)) (hRs : RQ.size = 15)
  (FR : ∀ W, Below w.heap.size w W → Calls Tryz.prog 11 #[.agg RQ] W (GivesNQ W s))
  (FI : ∀ W, Below w.heap.size w W → Calls Tryz.prog 46 #[.slice ai s.inn.length ci] W (GivesV W s.inn))
  (FO : ∀ W, Below w.heap.size w W → Calls Tryz.prog 46 #[.slice ao s.out.length co] W (GivesV W s.out)) :
  Calls Tryz.prog 21 #[.agg C] w (fun e w' => ∃ sv vi vo, e = .returned (.agg (setC s sv vi vo)) ∧ LS w' s sv vi vo ∧ Below w.heap.size w w') := by
 replace FR := Lib.hid FR
 replace FI := Lib.hid FI
 replace FO := Lib.hid FO
 go_enter Tryz.func21, Tryz.ntmps21
 go_wp2
 have K0 : ∀ i, ((w.alloc (.cells C 43)).alloc (.cells #[.int .u8 0, .int .i64 0, .int .u8 0, .int .i64 0, .int .i64 0, .int .u8 0, .int .i64 0, .slice none 0 0, .slice none 0 0, .slice none 0 0, .slice none 0 0, .slice none 0 0, .slice none 0 0, .slice none 0 0, .slice none 0 0, .slice none 0 0, .int .i64 0, .slice none 0 0, .slice none 0 0] 48)).cell? ⟨w.heap.size, i, none⟩ = C[i]? := fun i => own_two w C _ _ i
 have B0 := Lib.hid (Below.next_alloc (Below.next_alloc (Below.refl _ w) (.cells C 43)) (.cells #[.int .u8 0, .int .i64 0, .int .u8 0, .int .i64 0, .int .i64 0, .int .u8 0, .int .i64 0, .slice none 0 0, .slice none 0 0, .slice none 0 0, .slice none 0 0, .slice none 0 0, .slice none 0 0, .slice none 0 0, .slice none 0 0, .slice none 0 0, .int .i64 0, .slice none 0 0, .slice none 0 0] 48))
 have Z0 : ((w.alloc (.cells C 43)).alloc (.cells #[.int .u8 0, .int .i64 0, .int .u8 0, .int .i64 0, .int .i64 0, .int .u8 0, .int .i64 0, .slice none 0 0, .slice none 0 0, .slice none 0 0, .slice none 0 0, .slice none 0 0, .slice none 0 0, .slice none 0 0, .slice none 0 0, .slice none 0 0, .int .i64 0, .slice none 0 0, .slice none 0 0] 48)).heap.size = w.heap.size + 2 := by simp
 have H0 : ((w.alloc (.cells C 43)).alloc (.cells #[.int .u8 0, .int .i64 0, .int .u8 0, .int .i64 0, .int .i64 0, .int .u8 0, .int .i64 0, .slice none 0 0, .slice none 0 0, .slice none 0 0, .slice none 0 0, .slice none 0 0, .slice none 0 0, .slice none 0 0, .slice none 0 0, .slice none 0 0, .int .i64 0, .slice none 0 0, .slice none 0 0] 48)).heap[w.heap.size + 1]? = some (.cells #[.int .u8 0, .int .i64 0, .int .u8 0, .int .i64 0, .int .i64 0, .int .u8 0, .int .i64 0, .slice none 0 0, .slice none 0 0, .slice none 0 0, .slice none 0 0, .slice none 0 0, .slice none 0 0, .slice none 0 0, .slice none 0 0, .slice none 0 0, .int .i64 0, .slice none 0 0, .slice none 0 0] 48) := by
  have h := heap_alloc_last (w.alloc (.cells C 43)) (.cells #[.int .u8 0, .int .i64 0, .int .u8 0, .int .i64 0, .int .i64 0, .int .u8 0, .int .i64 0, .slice none 0 0, .slice none 0 0, .slice none 0 0, .slice none 0 0, .slice none 0 0, .slice none 0 0, .slice none 0 0, .slice none 0 0, .slice none 0 0, .int .i64 0, .slice none 0 0, .slice none 0 0] 48)
  rw [World.size_alloc] at h
  exact h
 obtain ⟨ZC, hZC⟩ : ∃ ZC : Array Value, ZC = #[.int .u8 0, .int .i64 0, .int .u8 0, .int .i64 0, .int .i64 0, .int .u8 0, .int .i64 0, .slice none 0 0, .slice none 0 0, .slice none 0 0, .slice none 0 0, .slice none 0 0, .slice none 0 0, .slice none 0 0, .slice none 0 0, .slice none 0 0, .int .i64 0, .slice none 0 0, .slice none 0 0] := ⟨_, rfl⟩
 have hZs : ZC.size = 19 := by rw [hZC]; rfl
 rw [← hZC] at K0 B0 Z0 H0 ⊢
 clear hZC
 generalize ((w.alloc (.cells C 43)).alloc (.cells ZC 48)) = W0 at *
 have ZL : w.heap.size + 1 ≤ W0.heap.size := by omega
 have KB : ∀ W, Below (w.heap.size + 1) W0 W → ∀ i, W.cell? ⟨w.heap.size, i, none⟩ = C[i]? := fun W hB i => (hB.cell (p := ⟨w.heap.size, i, none⟩) (by simp)).trans (K0 i)
 have RA := Lib.hid (fun W (hB : Below (w.heap.size + 1) W0 W) => (show W.rangeAt w.heap.size 0 [.int .u8 s.kind, .int .i64 s.sec] from fun j v hv => (KB W hB _).trans (hCA j v hv)))
 have RB := Lib.hid (fun W (hB : Below (w.heap.size + 1) W0 W) => (show W.rangeAt w.heap.size 2 RQ.toList from fun j v hv => (KB W hB _).trans (hCB j v hv)))
 have RC := Lib.hid (fun W (hB : Below (w.heap.size + 1) W0 W) => (KB W hB 17).trans hCI)
 have RD := Lib.hid (fun W (hB : Below (w.heap.size + 1) W0 W) => (KB W hB 18).trans hCO)
 have hR := Lib.hid (show (Tryz.prog.info? 27).map (·.size) = some RQ.toList.length by rw [Array.length_toList, hRs]; kernel_rfl)
 have HH := Lib.hid (fun W (hB : Below W0.heap.size W0 W) => (hB.block (w.heap.size + 1) (by omega)).trans H0)
 clear K0 H0 KB hCA hCB hCI hCO hRs
 refine wp_region_held_drew (S := fun W => Below (w.heap.size + 1) W0 W) (by kernel_rfl) (Below.refl _ _).drew (fun hH0 => ?_)
 refine wpAnyH_take (i := 0) (oi := _) (v := ?v0) rfl (by kernel_rfl) (by kernel_rfl) (by kernel_rfl) (fun _ _ _ h => h) (Or.inl ⟨by rfl, ?hy0⟩) hH0 ?_
 case hy0 => (intro w hSw; go_simp; with_reducible rfl)
 try simp only [Act.put, List.setIfInBounds_toArray, List.set_cons_zero, List.set_cons_succ, List.toArray_toList, List.getElem_toArray, List.getElem_cons_succ, List.getElem_cons_zero]
 refine wpAnyH_take (i := 1) (oi := _) (v := .agg (List.toArray [.int .u8 s.kind, .int .i64 s.sec])) rfl (by kernel_rfl) (by kernel_rfl) (by kernel_rfl) (fun _ _ _ h => h) (yieldsIf_load_mid (by rfl) _ _ rfl w.heap.size 0 rfl [.int .u8 s.kind, .int .i64 s.sec] _ (fun W hW => RA.out W hW) Tryz.underlying23 rfl (by kernel_rfl)) hH0 ?_
 try simp only [Act.put, List.setIfInBounds_toArray, List.set_cons_zero, List.set_cons_succ, List.toArray_toList, List.getElem_toArray, List.getElem_cons_succ, List.getElem_cons_zero]
 refine wpAnyH_take (i := 2) (oi := _) (v := ?v2) rfl (by kernel_rfl) (by kernel_rfl) (by kernel_rfl) (fun _ _ _ h => h) (Or.inl ⟨by rfl, ?hy2⟩) hH0 ?_
 case hy2 => (intro w hSw; go_simp; with_reducible rfl)
 try simp only [Act.put, List.setIfInBounds_toArray, List.set_cons_zero, List.set_cons_succ, List.toArray_toList, List.getElem_toArray, List.getElem_cons_succ, List.getElem_cons_zero]
 refine wpAnyH_take (i := 3) (oi := _) (v := .agg (List.toArray RQ.toList)) rfl (by kernel_rfl) (by kernel_rfl) (by kernel_rfl) (fun _ _ _ h => h) (yieldsIf_load_mid (by rfl) _ _ rfl w.heap.size 2 rfl RQ.toList _ (fun W hW => RB.out W hW) Tryz.underlying27 rfl hR.out) hH0 ?_
 try simp only [Act.put, List.setIfInBounds_toArray, List.set_cons_zero, List.set_cons_succ, List.toArray_toList, List.getElem_toArray, List.getElem_cons_succ, List.getElem_cons_zero]
 refine wpAnyH_take (i := 5) (oi := _) (v := ?v5) rfl (by kernel_rfl) (by kernel_rfl) (by kernel_rfl) (fun _ _ _ h => h) (Or.inl ⟨by rfl, ?hy5⟩) hH0 ?_
 case hy5 => (intro w hSw; go_simp; with_reducible rfl)
 try simp only [Act.put, List.setIfInBounds_toArray, List.set_cons_zero, List.set_cons_succ, List.toArray_toList, List.getElem_toArray, List.getElem_cons_succ, List.getElem_cons_zero]
 refine wpAnyH_take (i := 6) (oi := _) (v := ?v6) rfl (by kernel_rfl) (by kernel_rfl) (by kernel_rfl) (fun _ _ _ h => h) (Or.inl ⟨by rfl, ?hy6⟩) hH0 ?_
 case hy6 => (intro W hSw; have hc := RC.out W hSw; go_simp; with_reducible rfl)
 try simp only [Act.put, List.setIfInBounds_toArray, List.set_cons_zero, List.set_cons_succ, List.toArray_toList, List.getElem_toArray, List.getElem_cons_succ, List.getElem_cons_zero]
 refine wpAnyH_take (i := 8) (oi := _) (v := ?v8) rfl (by kernel_rfl) (by kernel_rfl) (by kernel_rfl) (fun _ _ _ h => h) (Or.inl ⟨by rfl, ?hy8⟩) hH0 ?_
 case hy8 => (intro w hSw; go_simp; with_reducible rfl)
 try simp only [Act.put, List.setIfInBounds_toArray, List.set_cons_zero, List.set_cons_succ, List.toArray_toList, List.getElem_toArray, List.getElem_cons_succ, List.getElem_cons_zero]
 refine wpAnyH_take (i := 9) (oi := _) (v := ?v9) rfl (by kernel_rfl) (by kernel_rfl) (by kernel_rfl) (fun _ _ _ h => h) (Or.inl ⟨by rfl, ?hy9⟩) hH0 ?_
 case hy9 => (intro W hSw; have hc := RD.out W hSw; go_simp; with_reducible rfl)
 try simp only [Act.put, List.setIfInBounds_toArray, List.set_cons_zero, List.set_cons_succ, List.toArray_toList, List.getElem_toArray, List.getElem_cons_succ, List.getElem_cons_zero]
 refine wpAnyH_ready (rs := [4]) (by kernel_rfl) (by simp) ?_
 refine AllReadyH.cons (o := _) rfl (fun K hK => ?_) AllReadyH.nil
 go_simp
 (go_at_call 11; (with_reducible refine (FR.out _ (Below.next B0.out (by (repeat' (first|assumption|exact Below.refl _ _|apply Below.next_alloc|apply Below.drew|(apply Below.next;rotate_left;assumption)))))).mono ?_); rintro e y1 ⟨p, u, rfl, hL1, hB1⟩; have S1 := (Below.next (Below.refl W0.heap.size W0).drew hB1).mono ZL)
 refine hK.out _ _ ?_ (fun hH1 => ?_)
 case _ => exact S1
 clear hK K
 try simp only [Act.put, List.setIfInBounds_toArray, List.set_cons_zero, List.set_cons_succ, List.toArray_toList, List.getElem_toArray, List.getElem_cons_succ, List.getElem_cons_zero]
 refine wpAnyH_ready (rs := [7]) (by kernel_rfl) (by simp) ?_
 refine AllReadyH.cons (o := _) rfl (fun K hK => ?_) AllReadyH.nil
 go_simp
 (go_at_call 46; (with_reducible refine (FI.out _ (Below.next B0.out (by (repeat' (first|assumption|exact Below.refl _ _|apply Below.next_alloc|apply Below.drew|(apply Below.next;rotate_left;assumption)))))).mono ?_); rintro e y2 ⟨v13, rfl, hO2, hB2⟩; obtain ⟨p13, u13, rfl⟩ := hO2.slice; have S2 := (Below.next (Below.next (Below.refl W0.heap.size W0).drew hB1) hB2).mono ZL)
 refine hK.out _ _ ?_ (fun hH2 => ?_)
 case _ => exact S2
 clear hK K
 try simp only [Act.put, List.setIfInBounds_toArray, List.set_cons_zero, List.set_cons_succ, List.toArray_toList, List.getElem_toArray, List.getElem_cons_succ, List.getElem_cons_zero]
 refine wpAnyH_ready (rs := [10]) (by kernel_rfl) (by simp) ?_
 refine AllReadyH.cons (o := _) rfl (fun K hK => ?_) AllReadyH.nil
 go_simp
 (go_at_call 46; (with_reducible refine (FO.out _ (Below.next B0.out (by (repeat' (first|assumption|exact Below.refl _ _|apply Below.next_alloc|apply Below.drew|(apply Below.next;rotate_left;assumption)))))).mono ?_); rintro e y3 ⟨v14, rfl, hO3, hB3⟩; obtain ⟨p14, u14, rfl⟩ := hO3.slice; have S3 := (Below.next (Below.next (Below.next (Below.refl W0.heap.size W0).drew hB1) hB2) hB3).mono ZL)
 refine hK.out _ _ ?_ (fun hH3 => ?_)
 case _ => exact S3
 clear hK K
 try simp only [Act.put, List.setIfInBounds_toArray, List.set_cons_zero, List.set_cons_succ, List.toArray_toList, List.getElem_toArray, List.getElem_cons_succ, List.getElem_cons_zero]
 have S4 := S3
 obtain ⟨DD, hDD⟩ : ∃ DD, DD = (setC s (svQ s.rule p u) (.slice p13 s.inn.length u13) (.slice p14 s.out.length u14)) := ⟨_, rfl⟩
 have hbu := builtSet s.kind s.sec (.int .u8 s.rule.freq) (.int .i64 s.rule.interval) (.int .i64 s.rule.count) (.int .u8 s.rule.uk) (.int .i64 s.rule.us) (svQ s.rule p u 4) (svQ s.rule p u 5) (svQ s.rule p u 6) (svQ s.rule p u 7) (svQ s.rule p u 8) (svQ s.rule p u 9) (svQ s.rule p u 10) (svQ s.rule p u 11) (svQ s.rule p u 12) (.int .i64 s.rule.wkst) p13 p14 s.inn.length s.out.length u13 u14
 replace hbu := Lib.hid (hbu.trans (congrArg some hDD.symm))
 have hDs : DD.size = 19 := by rw [hDD]; rfl
 have hD1 : DD.all (·.oneCell') = true := by rw [hDD]; unfold setC svQ; simp [Value.oneCell']
 replace hDD := Lib.hid hDD
 have hHH := HH.out y3 (Below.next (Below.next (Below.next (Below.refl W0.heap.size W0).drew hB1) hB2) hB3)
 refine wpAnyH_ready (rs := [11]) (by kernel_rfl) (by simp) ?_
 refine AllReadyH.cons (o := _) rfl (fun K hK => ?_) AllReadyH.nil
 rw [if_pos (by rfl)]
 refine wp_build_as 14 (by rfl) _ _ rfl [(0, .agg #[.int .u8 s.kind, .int .i64 s.sec]), (1, .agg (ruleC s.rule (svQ s.rule p u))), (2, .slice p13 s.inn.length u13), (3, .slice p14 s.out.length u14)] (by simp [Act.eval]) DD hbu.out ?_
 refine hK.out _ _ ?_ (fun hH4 => ?_)
 case _ => exact S4
 clear hK K
 try simp only [Act.put, List.setIfInBounds_toArray, List.set_cons_zero, List.set_cons_succ, List.toArray_toList, List.getElem_toArray, List.getElem_cons_succ, List.getElem_cons_zero]
 have S5 : Below (w.heap.size + 1) W0 (y3.setRow (w.heap.size + 1) DD) := S4.trans (below_setRow _ _ _ (Nat.le_refl _))
 refine wpAnyH_ready (rs := [12]) (by kernel_rfl) (by simp) ?_
 refine AllReadyH.cons (o := _) rfl (fun K hK => ?_) AllReadyH.nil
 rw [if_pos (by rfl)]
 refine wp_store_at (by rfl) _ _ _ rfl DD (w.heap.size + 1) rfl hHH rfl (by rw [hDs]; exact sizeSet) (hZs.trans hDs.symm) hD1 ?_
 refine hK.out _ _ ?_ (fun hH5 => ?_)
 case _ => exact S5
 clear hK K
 try simp only [Act.put, List.setIfInBounds_toArray, List.set_cons_zero, List.set_cons_succ, List.toArray_toList, List.getElem_toArray, List.getElem_cons_succ, List.getElem_cons_zero]
 refine wpAnyH_done (by kernel_rfl) ?_ _
 have BB := Lib.hid (Below.next (Below.next (Below.next B0.out.drew hB1) hB2) hB3)
 have hk := fun k h => setRow_other y3 (w.heap.size + 1) k DD h
 have hrow := setRow_heap y3 (w.heap.size + 1) _ DD _ _ hHH
 have BF := Lib.hid (BB.out.trans (below_setRow y3 (w.heap.size + 1) DD (Nat.le_succ _)))
 have z1 : w.heap.size + 1 < W0.drew.heap.size := by show w.heap.size + 1 < W0.heap.size; omega
 have z2 : w.heap.size + 1 < y1.heap.size := Nat.lt_of_lt_of_le z1 hB1.size
 have z3 : w.heap.size + 1 < y2.heap.size := Nat.lt_of_lt_of_le z2 hB2.size
 have I1 := ((hL1.below (Below.next hB2 hB3)).moved (hk · ·) z1).lists
 have I2 := ((hO2.below hB3).moved (hk · ·) z2).vals
 have I3 := ((hO3.below (Below.refl _ _)).moved (hk · ·) z3).vals
 clear hk
 generalize World.setRow _ _ _ = Wf at *
 have LL := Lib.hid (show LS Wf s (svQ s.rule p u) (.slice p13 s.inn.length u13) (.slice p14 s.out.length u14) from ⟨I1, I2, I3⟩)
 clear I1 hL1 hB1 z1 FR I2 hO2 hB2 z2 FI I3 hO3 hB3 z3 FO HH B0 BB
 go_wp2
 refine bodyPost_ret (results_cell_row (P := Tryz.prog) Tryz.results21 _ _ (w.heap.size + 1) 48 DD (0, 0) _ rfl hrow Tryz.underlying48 rfl (by rw [hDs]; exact sizeSet)) rfl ⟨_, _, _, by rw [hDD.out], LL.out, BF.out⟩
theorem ownS_core (w : World) (s : St) (a : Nat → Option Addr) (c : Nat → Nat) (hL : LS w s (svQ s.rule a c) (.slice (a 13) s.inn.length (c 13)) (.slice (a 14) s.out.length (c 14))) (hn : Short s.rule) (hi : s.inn.length ≤ 1000) (ho : s.out.length ≤ 1000) : Calls Tryz.prog 21 #[.agg (setQ s a c)] w (fun e w' => ∃ sv vi vo, e = .returned (.agg (setC s sv vi vo)) ∧ LS w' s sv vi vo ∧ Below w.heap.size w w') := by
 refine ownS_walk w s (setQ s a c) (ruleQ s a c) (a 13) (a 14) (c 13) (c 14) ?_ ?_ rfl rfl rfl ?_ ?_ ?_
 ·intro j v h
  have hj : j < 2 := (List.getElem?_eq_some_iff.1 h).1
  have hc : j = 0 ∨ j = 1 := by omega
  rcases hc with rfl | rfl <;> exact h
 ·intro j v h
  have hj : j < 15 := (List.getElem?_eq_some_iff.1 h).1
  have hc : j = 0 ∨ j = 1 ∨ j = 2 ∨ j = 3 ∨ j = 4 ∨ j = 5 ∨ j = 6 ∨ j = 7 ∨ j = 8 ∨ j = 9 ∨ j = 10 ∨ j = 11 ∨ j = 12 ∨ j = 13 ∨ j = 14 := by omega
  rcases hc with rfl | rfl | rfl | rfl | rfl | rfl | rfl | rfl | rfl | rfl | rfl | rfl | rfl | rfl | rfl <;> exact h
 ·exact fun W hB => (ownN_any W s.rule (svQ s.rule a c) (hL.1.later hB) hn).mono fun _ _ h => givesNQ h
 ·exact fun W hB => values_any (hL.2.1.below hB) hi
 ·exact fun W hB => values_any (hL.2.2.below hB) ho
theorem ownS_any (w : World) (s : St) (a : Nat → Option Addr) (c : Nat → Nat) (hL : LS w s (svQ s.rule a c) (.slice (a 13) s.inn.length (c 13)) (.slice (a 14) s.out.length (c 14))) (hn : Short s.rule) (hi : s.inn.length ≤ 1000) (ho : s.out.length ≤ 1000) : Calls Tryz.prog 21 #[.agg (setQ s a c)] w (GivesS w s) :=
 (ownS_core w s a c hL hn hi ho).mono fun e w' ⟨sv, vi, vo, he, hLS, hB⟩ => by
  obtain ⟨p, u, h1, h2⟩ := ls_q hLS
  exact ⟨p, u, by rw [he, h1], h2, hB⟩
end Go.Proofs.YtkbohijlhhpfbaaGreatDoor.Rs

/- The walk through the law's awake (printed by gen_aw.py). -/
import Derived.Test.YtkbohijlhhpfbaaGreatDoorVZi
import Derived.Test.YtkbohijlhhpfbaaGreatDoorVZg2
import Derived.Test.YtkbohijlhhpfbaaGreatDoorVZk
import Derived.Test.YtkbohijlhhpfbaaGreatDoorVZn
namespace Go.Proofs.YtkbohijlhhpfbaaGreatDoor.Rs
open Go.RowKit Ru Ut Cw Ra Xp
def aD (b1 b2 : Nat) (q : Nat) : Option Addr := if q = 13 then some ⟨b1, 0, none⟩ else if q = 14 then some ⟨b2, 0, none⟩ else none
def cD (q : Nat) : Nat := if q = 13 then 1 else if q = 14 then 1 else 0
theorem setD (b1 b2 : Nat) : setQ sD (aD b1 b2) cD = #[.int .u8 3, .int .i64 63839696400, .int .u8 3, .int .i64 2, .int .i64 3, .int .u8 0, .int .i64 0, .slice none 0 0, .slice none 0 0, .slice none 0 0, .slice none 0 0, .slice none 0 0, .slice none 0 0, .slice none 0 0, .slice none 0 0, .slice none 0 0, .int .i64 0, .slice (some ⟨b1, 0, none⟩) 1 1, .slice (some ⟨b2, 0, none⟩) 1 1] := rfl
theorem ls_D {W : World} {b1 b2 : Nat} (h1 : b1 < W.heap.size) (c1 : W.cell? ⟨b1, 0, none⟩ = some (.int .u8 3)) (d1 : W.cell? ⟨b1, 1, none⟩ = some (.int .i64 63839955600)) (h2 : b2 < W.heap.size) (c2 : W.cell? ⟨b2, 0, none⟩ = some (.int .u8 3)) (d2 : W.cell? ⟨b2, 1, none⟩ = some (.int .i64 63839869200)) :
  LS W sD (svQ sD.rule (aD b1 b2) cD) (.slice (aD b1 b2 13) sD.inn.length (cD 13)) (.slice (aD b1 b2 14) sD.out.length (cD 14)) := by
 refine ⟨⟨fun q h4 h12 h7 => ?_, ?_⟩, ?_, ?_⟩
 ·have hc : q = 4 ∨ q = 5 ∨ q = 6 ∨ q = 8 ∨ q = 9 ∨ q = 10 ∨ q = 11 ∨ q = 12 := by omega
  rcases hc with rfl | rfl | rfl | rfl | rfl | rfl | rfl | rfl <;> exact .inl ⟨rfl, none, 0, rfl, fun _ => rfl⟩
 ·exact .inl ⟨rfl, none, 0, rfl, fun _ => rfl⟩
 ·refine .inr ⟨by decide, b1, 0, 1, rfl, h1, by decide, fun i hi => ?_⟩
  obtain rfl : i = 0 := by change i < 1 at hi; omega
  exact ⟨c1, d1⟩
 ·refine .inr ⟨by decide, b2, 0, 1, rfl, h2, by decide, fun i hi => ?_⟩
  obtain rfl : i = 0 := by change i < 1 at hi; omega
  exact ⟨c2, d2⟩
theorem wsD : WS sD := by
 refine ⟨⟨⟨fun q h4 h12 h7 => ?_, by decide⟩, ⟨by decide, by decide, by decide⟩, fun q h4 h12 h7 x hx => ?_⟩, ⟨by decide, by decide⟩, fun x hx => ?_, fun x hx => ?_, by decide, by decide⟩
 ·have hc : q = 4 ∨ q = 5 ∨ q = 6 ∨ q = 8 ∨ q = 9 ∨ q = 10 ∨ q = 11 ∨ q = 12 := by omega
  rcases hc with rfl | rfl | rfl | rfl | rfl | rfl | rfl | rfl <;> decide
 ·have hc : q = 4 ∨ q = 5 ∨ q = 6 ∨ q = 8 ∨ q = 9 ∨ q = 10 ∨ q = 11 ∨ q = 12 := by omega
  rcases hc with rfl | rfl | rfl | rfl | rfl | rfl | rfl | rfl <;> cases hx
 ·obtain rfl : x = (3, 63839955600) := List.mem_singleton.1 hx
  decide
 ·obtain rfl : x = (3, 63839869200) := List.mem_singleton.1 hx
  decide
theorem field_sec (k s : Int) (W : World) : (Instr.field 30 (.agg #[.int .u8 k, .int .i64 s]) 1).run Tryz.prog W = .ok (.int .i64 s) W := by kernel_rfl
attribute [local go_sem] field_sec
theorem three_new (W : World) (t : TypeId) (x y z : Int) : Ints (W.alloc (.cells #[.int .i64 x, .int .i64 y, .int .i64 z] t)) (.slice (some ⟨W.heap.size, 0, none⟩) 3 3) [x, y, z] :=
 .inr ⟨by simp, W.heap.size, 0, 3, rfl, by simp, by simp, fun i hi => by
  have hi2 : i < 3 := hi
  match i, hi2 with
  | 0, _ => exact World.cell?_alloc_new W _ _ 0
  | 1, _ => exact World.cell?_alloc_new W _ _ 1
  | 2, _ => exact World.cell?_alloc_new W _ _ 2⟩
theorem same_eq {w : World} {v u : Value} {l : List Int} (hl : Ints w v l) (hm : Ints w u l) (hn : l.length ≤ 1000000) : Calls Tryz.prog 14 #[v, u] w fun e w' => e = .returned (.bool true) ∧ Below w.heap.size w w' := by
 have h := Da.rSame_any hl hm hn hn
 rwa [decide_eq_true rfl] at h
theorem wsN : WS sN := by
 refine ⟨⟨⟨fun q h4 h12 h7 => ?_, by decide⟩, ⟨by decide, by decide, by decide⟩, fun q h4 h12 h7 x hx => ?_⟩, ⟨by decide, by decide⟩, (fun x hx => by cases hx), (fun x hx => by cases hx), by decide, by decide⟩
 ·have hc : q = 4 ∨ q = 5 ∨ q = 6 ∨ q = 8 ∨ q = 9 ∨ q = 10 ∨ q = 11 ∨ q = 12 := by omega
  rcases hc with rfl | rfl | rfl | rfl | rfl | rfl | rfl | rfl <;> decide
 ·have hc : q = 4 ∨ q = 5 ∨ q = 6 ∨ q = 8 ∨ q = 9 ∨ q = 10 ∨ q = 11 ∨ q = 12 := by omega
  rcases hc with rfl | rfl | rfl | rfl | rfl | rfl | rfl | rfl <;> cases hx
theorem checkZ (W : World) : Calls Tryz.prog 26 #[.agg #[.int .u8 0, .int .i64 0, .int .u8 0, .int .i64 0, .int .i64 0, .int .u8 0, .int .i64 0, .slice none 0 0, .slice none 0 0, .slice none 0 0, .slice none 0 0, .slice none 0 0, .slice none 0 0, .slice none 0 0, .slice none 0 0, .slice none 0 0, .int .i64 0, .slice none 0 0, .slice none 0 0]] W fun e w' => e = .returned (.int .i64 11) ∧ Below W.heap.size W w' := by
 have h := checkS_any W sN Da.svN (.slice none 0 0) (.slice none 0 0) ⟨Da.listsN W sN.rule (Da.q_cases rfl rfl rfl rfl rfl rfl rfl rfl) rfl, .inl ⟨rfl, none, 0, rfl, fun _ => rfl⟩, .inl ⟨rfl, none, 0, rfl, fun _ => rfl⟩⟩ wsN
 rw [chkN] at h
 exact h
set_option maxHeartbeats 8000000 in
set_option maxRecDepth 100000 in
theorem awake_any (w : World) (hT : Tab w) : Calls Tryz.prog 20 #[] w fun e w' => e = .returned (.bool true) ∧ Below w.heap.size w w' := by
 have D1 := Lib.hid (fun W => (show Calls Tryz.prog 45 #[.int .i64 1] W fun e w' => e = .returned (.agg #[.int .u8 3, .int .i64 63839696400]) ∧ Below W.heap.size W w' from day_any W 1 (by decide) (by decide)))
 have D3 := Lib.hid (fun W => (show Calls Tryz.prog 45 #[.int .i64 3] W fun e w' => e = .returned (.agg #[.int .u8 3, .int .i64 63839869200]) ∧ Below W.heap.size W w' from day_any W 3 (by decide) (by decide)))
 have D5 := Lib.hid (fun W => (show Calls Tryz.prog 45 #[.int .i64 5] W fun e w' => e = .returned (.agg #[.int .u8 3, .int .i64 63840042000]) ∧ Below W.heap.size W w' from day_any W 5 (by decide) (by decide)))
 have D4 := Lib.hid (fun W => (show Calls Tryz.prog 45 #[.int .i64 4] W fun e w' => e = .returned (.agg #[.int .u8 3, .int .i64 63839955600]) ∧ Below W.heap.size W w' from day_any W 4 (by decide) (by decide)))
 have HT := Lib.hid (fun W (hB : Below w.heap.size w W) => hT.later hB)
 clear hT
 go_enter Tryz.func20, Tryz.ntmps20
 go_upto_region 1 with fail
 go_cut [1] (fun cc wx => ∃ b b1 b2, cc = .pointer (some ⟨b, 0, none⟩) ∧ Hid (Blk wx b (setQ sD (aD b1 b2) cD)) ∧ Hid (LS wx sD (svQ sD.rule (aD b1 b2) cD) (.slice (aD b1 b2 13) sD.inn.length (cD 13)) (.slice (aD b1 b2 14) sD.out.length (cD 14))) ∧ Hid (Below w.heap.size w wx))
 case first =>
  go_wp2_with (first
   | (go_at_call 45; (with_reducible refine (D1.out _).mono ?_); rintro e w1 ⟨rfl, hw1⟩)
   | (go_at_call 45; (with_reducible refine (D4.out _).mono ?_); rintro e w2 ⟨rfl, hw2⟩)
   | (go_at_call 45; (with_reducible refine (D3.out _).mono ?_); rintro e w3 ⟨rfl, hw3⟩)
   | (refine wpList_build2 rfl 48 _ rfl [(0, .agg #[.int .u8 3, .int .i64 63839696400]), (1, .agg #[.int .u8 3, .int .i64 2, .int .i64 3, .int .u8 0, .int .i64 0, .slice none 0 0, .slice none 0 0, .slice none 0 0, .slice none 0 0, .slice none 0 0, .slice none 0 0, .slice none 0 0, .slice none 0 0, .slice none 0 0, .int .i64 0]), (2, .slice (some ⟨w2.heap.size, 0, none⟩) 1 1), (3, .slice (some ⟨w3.heap.size, 0, none⟩) 1 1)] ?hq #[.int .u8 3, .int .i64 63839696400, .int .u8 3, .int .i64 2, .int .i64 3, .int .u8 0, .int .i64 0, .slice none 0 0, .slice none 0 0, .slice none 0 0, .slice none 0 0, .slice none 0 0, .slice none 0 0, .slice none 0 0, .slice none 0 0, .slice none 0 0, .int .i64 0, .slice (some ⟨w2.heap.size, 0, none⟩) 1 1, .slice (some ⟨w3.heap.size, 0, none⟩) 1 1] (builtSet _ _ _ _ _ _ _ _ _ _ _ _ _ _ _ _ _ _ _ _ _ _ _) ?_; (case hq => first | rfl | simp [Act.eval]))
   | (refine wpList_store_new rfl 48 _ _ rfl #[.int .u8 3, .int .i64 63839696400, .int .u8 3, .int .i64 2, .int .i64 3, .int .u8 0, .int .i64 0, .slice none 0 0, .slice none 0 0, .slice none 0 0, .slice none 0 0, .slice none 0 0, .slice none 0 0, .slice none 0 0, .slice none 0 0, .slice none 0 0, .int .i64 0, .slice (some ⟨w2.heap.size, 0, none⟩) 1 1, .slice (some ⟨w3.heap.size, 0, none⟩) 1 1] _ rfl (by simp) rfl sizeSet rfl (by simp [Value.oneCell']) ?_))
  go_meet
  have k1 := hw3.size
  rw [World.size_alloc] at k1
  have c1 := (hw3.cell (p := ⟨w2.heap.size, 0, none⟩) (by simp)).trans (World.cell?_alloc_new w2 #[.int .u8 3, .int .i64 63839955600] _ 0)
  have d1 := (hw3.cell (p := ⟨w2.heap.size, 1, none⟩) (by simp)).trans (World.cell?_alloc_new w2 #[.int .u8 3, .int .i64 63839955600] _ 1)
  have BF := Lib.hid (Below.next (Below.next hw1 hw2) (Below.next (Below.next_alloc (Below.refl _ w2) _) hw3))
  refine ⟨w3.heap.size + 1, w2.heap.size, w3.heap.size, rfl, Lib.hid (blk_two w3 _ _ _), Lib.hid (ls_D ?_ ?_ ?_ ?_ ?_ ?_), Lib.hid (Below.next_alloc (Below.next_alloc BF.out _) _)⟩
  ·simp; omega
  ·exact (World.cell?_alloc_lt _ _ _ (by simp; omega)).trans ((World.cell?_alloc_lt _ _ _ (by simp only; omega)).trans c1)
  ·exact (World.cell?_alloc_lt _ _ _ (by simp; omega)).trans ((World.cell?_alloc_lt _ _ _ (by simp only; omega)).trans d1)
  ·simp; omega
  ·exact (World.cell?_alloc_lt _ _ _ (by simp)).trans (World.cell?_alloc_new w3 _ _ 0)
  ·exact (World.cell?_alloc_lt _ _ _ (by simp)).trans (World.cell?_alloc_new w3 _ _ 1)
 case rest =>
 obtain ⟨b, b1, b2, rfl, HB, HL, BW⟩ := hcut
 have hL := HL.out
 have hT := fun W (hB : Below wc.heap.size wc W) => HT.out W (Below.next BW.out hB)
 have WW : ∀ W, Below wc.heap.size wc W → Calls Tryz.prog 22 #[.agg (setQ sD (aD b1 b2) cD), .int .i64 0, .int .i64 315537897600, .int .i64 100] W fun e w' => ∃ a c, e = .returned (.tuple #[.slice a 3 c, .int .i64 6, .int .i64 0]) ∧ Ints w' (.slice a 3 c) [63839696400, 63839955600, 63840042000] ∧ Below W.heap.size W w' := fun W hB => by
  have h := pwindow_any W sD (aD b1 b2) cD 0 315537897600 100 (hT W hB) (hL.later hB) wsD
  rw [winD1] at h
  refine h.mono fun e w' ⟨v, he, hO, hb⟩ => ?_
  obtain ⟨a, c, hv⟩ := OwnI.slice hO
  subst hv
  exact ⟨a, c, he, hO.ints, hb⟩
 have W5 : ∀ W, Below wc.heap.size wc W → Calls Tryz.prog 22 #[.agg (setQ sD (aD b1 b2) cD), .int .i64 0, .int .i64 315537897600, .int .i64 5] W fun e w' => ∃ a c, e = .returned (.tuple #[.slice a 0 c, .int .i64 0, .int .i64 13]) ∧ Ints w' (.slice a 0 c) [] ∧ Below W.heap.size W w' := fun W hB => by
  have h := pwindow_any W sD (aD b1 b2) cD 0 315537897600 5 (hT W hB) (hL.later hB) wsD
  rw [winD2] at h
  refine h.mono fun e w' ⟨v, he, hO, hb⟩ => ?_
  obtain ⟨a, c, hv⟩ := OwnI.slice hO
  subst hv
  exact ⟨a, c, he, hO.ints, hb⟩
 have N1 : ∀ W, Below wc.heap.size wc W → Calls Tryz.prog 28 #[.agg (setQ sD (aD b1 b2) cD), .int .i64 63839696400, .int .i64 100] W fun e w' => e = .returned (.tuple #[.int .i64 63839955600, .bool true, .int .i64 0]) ∧ Below W.heap.size W w' := fun W hB => by
  have h := pnext_any W sD (aD b1 b2) cD 63839696400 100 (hT W hB) (hL.later hB) wsD
  rw [nextD1] at h
  exact h
 have N2 : ∀ W, Below wc.heap.size wc W → Calls Tryz.prog 28 #[.agg (setQ sD (aD b1 b2) cD), .int .i64 63840042000, .int .i64 100] W fun e w' => e = .returned (.tuple #[.int .i64 0, .bool false, .int .i64 0]) ∧ Below W.heap.size W w' := fun W hB => by
  have h := pnext_any W sD (aD b1 b2) cD 63840042000 100 (hT W hB) (hL.later hB) wsD
  rw [nextD2] at h
  exact h
 have HS : ∀ W, Below wc.heap.size wc W → Calls Tryz.prog 24 #[.agg (setQ sD (aD b1 b2) cD), .int .i64 63840042000, .int .i64 100] W fun e w' => e = .returned (.tuple #[.bool true, .int .i64 0]) ∧ Below W.heap.size W w' := fun W hB => by
  have h := phas_any W sD (aD b1 b2) cD 63840042000 100 (hT W hB) (hL.later hB) wsD
  rw [hasD] at h
  exact h
 have CK : ∀ W, Below wc.heap.size wc W → Calls Tryz.prog 26 #[.agg (setQ sD (aD b1 b2) cD)] W fun e w' => e = .returned (.int .i64 0) ∧ Below W.heap.size W w' := fun W hB => by
  have h := checkS_any W sD (svQ sD.rule (aD b1 b2) cD) (.slice (aD b1 b2 13) sD.inn.length (cD 13)) (.slice (aD b1 b2 14) sD.out.length (cD 14)) (hL.later hB) wsD
  rw [chkD] at h
  exact h
 have CZ := Lib.hid (fun W => checkZ W)
 have S1 := Lib.hid (fun W v u (h1 : Ints W v [63839696400, 63839955600, 63840042000]) (h2 : Ints W u [63839696400, 63839955600, 63840042000]) => same_eq h1 h2 (by decide))
 have RG := fun W (hB : Below wc.heap.size wc W) => (HB.out.later hB HB.out.1).range
 obtain ⟨SV, hSV⟩ : ∃ SV, SV = setQ sD (aD b1 b2) cD := ⟨_, rfl⟩
 have hsz : (Tryz.prog.info? 48).map (·.size) = some SV.size := by rw [hSV]; exact sizeSet
 rw [← hSV] at WW W5 N1 N2 HS CK RG
 clear hSV hL hT HL HB HT
 have hsl := Lib.hid (show (Tryz.prog.info? 48).map (·.size) = some SV.toList.length by rw [Array.length_toList]; exact hsz)
 replace hsz := Lib.hid hsz
 replace WW := Lib.hid WW
 replace W5 := Lib.hid W5
 replace N1 := Lib.hid N1
 replace N2 := Lib.hid N2
 replace HS := Lib.hid HS
 replace CK := Lib.hid CK
 replace RG := Lib.hid RG
 go_wp2_with (first
  | (refine wpList_load_arr rfl 48 _ rfl b 0 rfl SV _ (RG.out _ (by (repeat' (first|assumption|exact Below.refl _ _|apply Below.next_alloc|apply Below.drew|(apply Below.next;rotate_left;assumption))))) Tryz.underlying48 rfl hsz.out ?_)
  | (go_at_call 22; (with_reducible refine (WW.out _ (by (repeat' (first|assumption|exact Below.refl _ _|apply Below.next_alloc|apply Below.drew|(apply Below.next;rotate_left;assumption))))).mono ?_); rintro e y1 ⟨ay1, cy1, rfl, hOy1, hCy1⟩; replace hOy1 := Lib.hid hOy1))
 refine wp_region_held_drew (S := fun W => Below wc.heap.size wc W) (by kernel_rfl) (by (repeat' (first|assumption|exact Below.refl _ _|apply Below.next_alloc|apply Below.drew|(apply Below.next;rotate_left;assumption)))) (fun hH0 => ?_)
 refine wpAnyH_take (i := 0) (oi := _) (v := .agg (List.toArray SV.toList)) rfl (by kernel_rfl) (by kernel_rfl) (by kernel_rfl) (fun _ _ _ h => h) (yieldsIf_load_mid (by rfl) _ _ rfl b 0 rfl SV.toList _ (fun W hW => RG.out W hW) Tryz.underlying48 rfl hsl.out) hH0 ?_
 simp only [Act.put, List.setIfInBounds_toArray, List.set_cons_zero, List.set_cons_succ, List.getElem_toArray, List.getElem_cons_zero, Array.toArray_toList]
 refine wpAnyH_ready (rs := [1]) (by kernel_rfl) (by simp) ?_
 refine AllReadyH.cons (o := _) rfl (fun K hK => ?_) AllReadyH.nil
 go_simp
 (go_at_call 45; (with_reducible refine (D1.out _).mono ?_); rintro e y2 ⟨rfl, hCy2⟩)
 refine hK.out _ _ ?_ (fun hH1 => ?_)
 case _ => exact (by (repeat' (first|assumption|exact Below.refl _ _|apply Below.next_alloc|apply Below.drew|(apply Below.next;rotate_left;assumption))))
 clear hK K
 refine wpAnyH_take (i := 2) (oi := _) (v := .int .i64 63839696400) rfl (by kernel_rfl) (by kernel_rfl) (by kernel_rfl) (fun _ _ _ h => h) (Or.inl ⟨by rfl, fun w _ => by kernel_rfl⟩) hH1 ?_
 simp only [Act.put, List.setIfInBounds_toArray, List.set_cons_zero, List.set_cons_succ, List.getElem_toArray, List.getElem_cons_succ, List.getElem_cons_zero]
 refine wpAnyH_ready (rs := [3]) (by kernel_rfl) (by simp) ?_
 refine AllReadyH.cons (o := _) rfl (fun K hK => ?_) AllReadyH.nil
 go_simp
 (go_at_call 28; (with_reducible refine (N1.out _ (by (repeat' (first|assumption|exact Below.refl _ _|apply Below.next_alloc|apply Below.drew|(apply Below.next;rotate_left;assumption))))).mono ?_); rintro e y3 ⟨rfl, hCy3⟩)
 refine hK.out _ _ ?_ (fun hH2 => ?_)
 case _ => exact (by (repeat' (first|assumption|exact Below.refl _ _|apply Below.next_alloc|apply Below.drew|(apply Below.next;rotate_left;assumption))))
 clear hK K
 refine wpAnyH_take (i := 4) (oi := _) (v := ?vr34) rfl (by kernel_rfl) (by kernel_rfl) (by kernel_rfl) (fun _ _ _ h => h) (Or.inl ⟨by rfl, ?hyr34⟩) hH2 ?_
 case hyr34 => (intro w hSw; go_simp; with_reducible rfl)
 simp only [Act.put, List.setIfInBounds_toArray, List.set_cons_zero, List.set_cons_succ, List.getElem_toArray, List.getElem_cons_succ, List.getElem_cons_zero]
 refine wpAnyH_take (i := 5) (oi := _) (v := ?vr35) rfl (by kernel_rfl) (by kernel_rfl) (by kernel_rfl) (fun _ _ _ h => h) (Or.inl ⟨by rfl, ?hyr35⟩) hH2 ?_
 case hyr35 => (intro w hSw; go_simp; with_reducible rfl)
 simp only [Act.put, List.setIfInBounds_toArray, List.set_cons_zero, List.set_cons_succ, List.getElem_toArray, List.getElem_cons_succ, List.getElem_cons_zero]
 refine wpAnyH_take (i := 6) (oi := _) (v := ?vr36) rfl (by kernel_rfl) (by kernel_rfl) (by kernel_rfl) (fun _ _ _ h => h) (Or.inl ⟨by rfl, ?hyr36⟩) hH2 ?_
 case hyr36 => (intro w hSw; go_simp; with_reducible rfl)
 simp only [Act.put, List.setIfInBounds_toArray, List.set_cons_zero, List.set_cons_succ, List.getElem_toArray, List.getElem_cons_succ, List.getElem_cons_zero]
 refine wpAnyH_take (i := 7) (oi := _) (v := ?vr37) rfl (by kernel_rfl) (by kernel_rfl) (by kernel_rfl) (fun _ _ _ h => h) (Or.inl ⟨by rfl, ?hyr37⟩) hH2 ?_
 case hyr37 => (intro w hSw; go_simp; with_reducible rfl)
 simp only [Act.put, List.setIfInBounds_toArray, List.set_cons_zero, List.set_cons_succ, List.getElem_toArray, List.getElem_cons_succ, List.getElem_cons_zero]
 refine wpAnyH_take (i := 8) (oi := _) (v := ?vr38) rfl (by kernel_rfl) (by kernel_rfl) (by kernel_rfl) (fun _ _ _ h => h) (Or.inl ⟨by rfl, ?hyr38⟩) hH2 ?_
 case hyr38 => (intro w hSw; go_simp; with_reducible rfl)
 simp only [Act.put, List.setIfInBounds_toArray, List.set_cons_zero, List.set_cons_succ, List.getElem_toArray, List.getElem_cons_succ, List.getElem_cons_zero]
 refine wpAnyH_take (i := 9) (oi := _) (v := ?vr39) rfl (by kernel_rfl) (by kernel_rfl) (by kernel_rfl) (fun _ _ _ h => h) (Or.inl ⟨by rfl, ?hyr39⟩) hH2 ?_
 case hyr39 => (intro w hSw; go_simp; with_reducible rfl)
 simp only [Act.put, List.setIfInBounds_toArray, List.set_cons_zero, List.set_cons_succ, List.getElem_toArray, List.getElem_cons_succ, List.getElem_cons_zero]
 refine wpAnyH_take (i := 10) (oi := _) (v := ?vr310) rfl (by kernel_rfl) (by kernel_rfl) (by kernel_rfl) (fun _ _ _ h => h) (Or.inl ⟨by rfl, ?hyr310⟩) hH2 ?_
 case hyr310 => (intro w hSw; go_simp; with_reducible rfl)
 simp only [Act.put, List.setIfInBounds_toArray, List.set_cons_zero, List.set_cons_succ, List.getElem_toArray, List.getElem_cons_succ, List.getElem_cons_zero]
 refine wpAnyH_done (by kernel_rfl) ?_ _
 clear hH0 hH1 hH2
 go_wp2
 refine wp_region_held_drew (S := fun W => Below wc.heap.size wc W) (by kernel_rfl) (by (repeat' (first|assumption|exact Below.refl _ _|apply Below.next_alloc|apply Below.drew|(apply Below.next;rotate_left;assumption)))) (fun hH0 => ?_)
 refine wpAnyH_take (i := 0) (oi := _) (v := .agg (List.toArray SV.toList)) rfl (by kernel_rfl) (by kernel_rfl) (by kernel_rfl) (fun _ _ _ h => h) (yieldsIf_load_mid (by rfl) _ _ rfl b 0 rfl SV.toList _ (fun W hW => RG.out W hW) Tryz.underlying48 rfl hsl.out) hH0 ?_
 simp only [Act.put, List.setIfInBounds_toArray, List.set_cons_zero, List.set_cons_succ, List.getElem_toArray, List.getElem_cons_zero, Array.toArray_toList]
 refine wpAnyH_ready (rs := [1]) (by kernel_rfl) (by simp) ?_
 refine AllReadyH.cons (o := _) rfl (fun K hK => ?_) AllReadyH.nil
 go_simp
 (go_at_call 45; (with_reducible refine (D5.out _).mono ?_); rintro e y4 ⟨rfl, hCy4⟩)
 refine hK.out _ _ ?_ (fun hH1 => ?_)
 case _ => exact (by (repeat' (first|assumption|exact Below.refl _ _|apply Below.next_alloc|apply Below.drew|(apply Below.next;rotate_left;assumption))))
 clear hK K
 refine wpAnyH_take (i := 2) (oi := _) (v := .int .i64 63840042000) rfl (by kernel_rfl) (by kernel_rfl) (by kernel_rfl) (fun _ _ _ h => h) (Or.inl ⟨by rfl, fun w _ => by kernel_rfl⟩) hH1 ?_
 simp only [Act.put, List.setIfInBounds_toArray, List.set_cons_zero, List.set_cons_succ, List.getElem_toArray, List.getElem_cons_succ, List.getElem_cons_zero]
 refine wpAnyH_ready (rs := [3]) (by kernel_rfl) (by simp) ?_
 refine AllReadyH.cons (o := _) rfl (fun K hK => ?_) AllReadyH.nil
 go_simp
 (go_at_call 28; (with_reducible refine (N2.out _ (by (repeat' (first|assumption|exact Below.refl _ _|apply Below.next_alloc|apply Below.drew|(apply Below.next;rotate_left;assumption))))).mono ?_); rintro e y5 ⟨rfl, hCy5⟩)
 refine hK.out _ _ ?_ (fun hH2 => ?_)
 case _ => exact (by (repeat' (first|assumption|exact Below.refl _ _|apply Below.next_alloc|apply Below.drew|(apply Below.next;rotate_left;assumption))))
 clear hK K
 refine wpAnyH_take (i := 4) (oi := _) (v := ?vr44) rfl (by kernel_rfl) (by kernel_rfl) (by kernel_rfl) (fun _ _ _ h => h) (Or.inl ⟨by rfl, ?hyr44⟩) hH2 ?_
 case hyr44 => (intro w hSw; go_simp; with_reducible rfl)
 simp only [Act.put, List.setIfInBounds_toArray, List.set_cons_zero, List.set_cons_succ, List.getElem_toArray, List.getElem_cons_succ, List.getElem_cons_zero]
 refine wpAnyH_take (i := 5) (oi := _) (v := ?vr45) rfl (by kernel_rfl) (by kernel_rfl) (by kernel_rfl) (fun _ _ _ h => h) (Or.inl ⟨by rfl, ?hyr45⟩) hH2 ?_
 case hyr45 => (intro w hSw; go_simp; with_reducible rfl)
 simp only [Act.put, List.setIfInBounds_toArray, List.set_cons_zero, List.set_cons_succ, List.getElem_toArray, List.getElem_cons_succ, List.getElem_cons_zero]
 refine wpAnyH_take (i := 6) (oi := _) (v := ?vr46) rfl (by kernel_rfl) (by kernel_rfl) (by kernel_rfl) (fun _ _ _ h => h) (Or.inl ⟨by rfl, ?hyr46⟩) hH2 ?_
 case hyr46 => (intro w hSw; go_simp; with_reducible rfl)
 simp only [Act.put, List.setIfInBounds_toArray, List.set_cons_zero, List.set_cons_succ, List.getElem_toArray, List.getElem_cons_succ, List.getElem_cons_zero]
 refine wpAnyH_take (i := 7) (oi := _) (v := ?vr47) rfl (by kernel_rfl) (by kernel_rfl) (by kernel_rfl) (fun _ _ _ h => h) (Or.inl ⟨by rfl, ?hyr47⟩) hH2 ?_
 case hyr47 => (intro w hSw; go_simp; with_reducible rfl)
 simp only [Act.put, List.setIfInBounds_toArray, List.set_cons_zero, List.set_cons_succ, List.getElem_toArray, List.getElem_cons_succ, List.getElem_cons_zero]
 refine wpAnyH_take (i := 8) (oi := _) (v := ?vr48) rfl (by kernel_rfl) (by kernel_rfl) (by kernel_rfl) (fun _ _ _ h => h) (Or.inl ⟨by rfl, ?hyr48⟩) hH2 ?_
 case hyr48 => (intro w hSw; go_simp; with_reducible rfl)
 simp only [Act.put, List.setIfInBounds_toArray, List.set_cons_zero, List.set_cons_succ, List.getElem_toArray, List.getElem_cons_succ, List.getElem_cons_zero]
 refine wpAnyH_take (i := 9) (oi := _) (v := ?vr49) rfl (by kernel_rfl) (by kernel_rfl) (by kernel_rfl) (fun _ _ _ h => h) (Or.inl ⟨by rfl, ?hyr49⟩) hH2 ?_
 case hyr49 => (intro w hSw; go_simp; with_reducible rfl)
 simp only [Act.put, List.setIfInBounds_toArray, List.set_cons_zero, List.set_cons_succ, List.getElem_toArray, List.getElem_cons_succ, List.getElem_cons_zero]
 refine wpAnyH_take (i := 10) (oi := _) (v := ?vr410) rfl (by kernel_rfl) (by kernel_rfl) (by kernel_rfl) (fun _ _ _ h => h) (Or.inl ⟨by rfl, ?hyr410⟩) hH2 ?_
 case hyr410 => (intro w hSw; go_simp; with_reducible rfl)
 simp only [Act.put, List.setIfInBounds_toArray, List.set_cons_zero, List.set_cons_succ, List.getElem_toArray, List.getElem_cons_succ, List.getElem_cons_zero]
 refine wpAnyH_done (by kernel_rfl) ?_ _
 clear hH0 hH1 hH2
 go_wp2
 refine wp_region_held_drew (S := fun W => Below wc.heap.size wc W) (by kernel_rfl) (by (repeat' (first|assumption|exact Below.refl _ _|apply Below.next_alloc|apply Below.drew|(apply Below.next;rotate_left;assumption)))) (fun hH0 => ?_)
 refine wpAnyH_take (i := 0) (oi := _) (v := .agg (List.toArray SV.toList)) rfl (by kernel_rfl) (by kernel_rfl) (by kernel_rfl) (fun _ _ _ h => h) (yieldsIf_load_mid (by rfl) _ _ rfl b 0 rfl SV.toList _ (fun W hW => RG.out W hW) Tryz.underlying48 rfl hsl.out) hH0 ?_
 simp only [Act.put, List.setIfInBounds_toArray, List.set_cons_zero, List.set_cons_succ, List.getElem_toArray, List.getElem_cons_zero, Array.toArray_toList]
 refine wpAnyH_ready (rs := [1]) (by kernel_rfl) (by simp) ?_
 refine AllReadyH.cons (o := _) rfl (fun K hK => ?_) AllReadyH.nil
 go_simp
 (go_at_call 45; (with_reducible refine (D5.out _).mono ?_); rintro e y6 ⟨rfl, hCy6⟩)
 refine hK.out _ _ ?_ (fun hH1 => ?_)
 case _ => exact (by (repeat' (first|assumption|exact Below.refl _ _|apply Below.next_alloc|apply Below.drew|(apply Below.next;rotate_left;assumption))))
 clear hK K
 refine wpAnyH_take (i := 2) (oi := _) (v := .int .i64 63840042000) rfl (by kernel_rfl) (by kernel_rfl) (by kernel_rfl) (fun _ _ _ h => h) (Or.inl ⟨by rfl, fun w _ => by kernel_rfl⟩) hH1 ?_
 simp only [Act.put, List.setIfInBounds_toArray, List.set_cons_zero, List.set_cons_succ, List.getElem_toArray, List.getElem_cons_succ, List.getElem_cons_zero]
 refine wpAnyH_ready (rs := [3]) (by kernel_rfl) (by simp) ?_
 refine AllReadyH.cons (o := _) rfl (fun K hK => ?_) AllReadyH.nil
 go_simp
 (go_at_call 24; (with_reducible refine (HS.out _ (by (repeat' (first|assumption|exact Below.refl _ _|apply Below.next_alloc|apply Below.drew|(apply Below.next;rotate_left;assumption))))).mono ?_); rintro e y7 ⟨rfl, hCy7⟩)
 refine hK.out _ _ ?_ (fun hH2 => ?_)
 case _ => exact (by (repeat' (first|assumption|exact Below.refl _ _|apply Below.next_alloc|apply Below.drew|(apply Below.next;rotate_left;assumption))))
 clear hK K
 refine wpAnyH_take (i := 4) (oi := _) (v := ?vr54) rfl (by kernel_rfl) (by kernel_rfl) (by kernel_rfl) (fun _ _ _ h => h) (Or.inl ⟨by rfl, ?hyr54⟩) hH2 ?_
 case hyr54 => (intro w hSw; go_simp; with_reducible rfl)
 simp only [Act.put, List.setIfInBounds_toArray, List.set_cons_zero, List.set_cons_succ, List.getElem_toArray, List.getElem_cons_succ, List.getElem_cons_zero]
 refine wpAnyH_take (i := 5) (oi := _) (v := ?vr55) rfl (by kernel_rfl) (by kernel_rfl) (by kernel_rfl) (fun _ _ _ h => h) (Or.inl ⟨by rfl, ?hyr55⟩) hH2 ?_
 case hyr55 => (intro w hSw; go_simp; with_reducible rfl)
 simp only [Act.put, List.setIfInBounds_toArray, List.set_cons_zero, List.set_cons_succ, List.getElem_toArray, List.getElem_cons_succ, List.getElem_cons_zero]
 refine wpAnyH_take (i := 6) (oi := _) (v := ?vr56) rfl (by kernel_rfl) (by kernel_rfl) (by kernel_rfl) (fun _ _ _ h => h) (Or.inl ⟨by rfl, ?hyr56⟩) hH2 ?_
 case hyr56 => (intro w hSw; go_simp; with_reducible rfl)
 simp only [Act.put, List.setIfInBounds_toArray, List.set_cons_zero, List.set_cons_succ, List.getElem_toArray, List.getElem_cons_succ, List.getElem_cons_zero]
 refine wpAnyH_take (i := 7) (oi := _) (v := ?vr57) rfl (by kernel_rfl) (by kernel_rfl) (by kernel_rfl) (fun _ _ _ h => h) (Or.inl ⟨by rfl, ?hyr57⟩) hH2 ?_
 case hyr57 => (intro w hSw; go_simp; with_reducible rfl)
 simp only [Act.put, List.setIfInBounds_toArray, List.set_cons_zero, List.set_cons_succ, List.getElem_toArray, List.getElem_cons_succ, List.getElem_cons_zero]
 refine wpAnyH_take (i := 8) (oi := _) (v := ?vr58) rfl (by kernel_rfl) (by kernel_rfl) (by kernel_rfl) (fun _ _ _ h => h) (Or.inl ⟨by rfl, ?hyr58⟩) hH2 ?_
 case hyr58 => (intro w hSw; go_simp; with_reducible rfl)
 simp only [Act.put, List.setIfInBounds_toArray, List.set_cons_zero, List.set_cons_succ, List.getElem_toArray, List.getElem_cons_succ, List.getElem_cons_zero]
 refine wpAnyH_done (by kernel_rfl) ?_ _
 clear hH0 hH1 hH2
 go_wp2_with (first
  | (refine wpList_load_arr rfl 48 _ rfl b 0 rfl SV _ (RG.out _ (by (repeat' (first|assumption|exact Below.refl _ _|apply Below.next_alloc|apply Below.drew|(apply Below.next;rotate_left;assumption))))) Tryz.underlying48 rfl hsz.out ?_)
  | (refine wpList_load_on (by rfl) 48 _ rfl b 0 rfl SV _ (RG.out _ (by (repeat' (first|assumption|exact Below.refl _ _|apply Below.next_alloc|apply Below.drew|(apply Below.next;rotate_left;assumption))))) Tryz.underlying48 rfl hsz.out ?_)
  | (go_at_call 22; (with_reducible refine (W5.out _ (by (repeat' (first|assumption|exact Below.refl _ _|apply Below.next_alloc|apply Below.drew|(apply Below.next;rotate_left;assumption))))).mono ?_); rintro e y8 ⟨ay8, cy8, rfl, hOy8, hCy8⟩; replace hOy8 := Lib.hid hOy8)
  | (go_at_call 45; (with_reducible refine (D1.out _).mono ?_); rintro e y9 ⟨rfl, hCy9⟩)
  | (go_at_call 45; (with_reducible refine (D4.out _).mono ?_); rintro e z1 ⟨rfl, hCz1⟩)
  | (go_at_call 45; (with_reducible refine (D5.out _).mono ?_); rintro e z2 ⟨rfl, hCz2⟩)
  | (go_at_call 14; (with_reducible refine (S1.out _ _ _ (hOy1.out.below (by (repeat' (first|assumption|exact Below.refl _ _|apply Below.next_alloc|apply Below.drew|(apply Below.next;rotate_left;assumption))))) (three_new _ _ _ _ _)).mono ?_); rintro e z3 ⟨rfl, hCz3⟩)
  | (go_at_call 26; (with_reducible refine (CK.out _ (by (repeat' (first|assumption|exact Below.refl _ _|apply Below.next_alloc|apply Below.drew|(apply Below.next;rotate_left;assumption))))).mono ?_); rintro e z4 ⟨rfl, hCz4⟩)
  | (go_at_call 26; (with_reducible refine (CZ.out _).mono ?_); rintro e z5 ⟨rfl, hCz5⟩))
 go_ret
 exact ⟨rfl, Below.next BW.out (by (repeat' (first|assumption|exact Below.refl _ _|apply Below.next_alloc|apply Below.drew|(apply Below.next;rotate_left;assumption))))⟩
end Go.Proofs.YtkbohijlhhpfbaaGreatDoor.Rs

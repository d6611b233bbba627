import Derived.Test.YtkbohijlhhpfbaaGreatDoorVXb
import Derived.Test.YtkbohijlhhpfbaaGreatDoorVTt
import Derived.Test.YtkbohijlhhpfbaaGreatDoorVYh
import Derived.Test.YtkbohijlhhpfbaaGreatDoorVRn
/- What a period costs, and all that it has: the walks through expand's Cost and All. -/
namespace Go.Proofs.YtkbohijlhhpfbaaGreatDoor.Xp
open Go.RowKit Ru Ut Cw Ra
def costE (r : R) (s i : Int) : Int := if okE r s i = true then ((dys r s i).length : Int) * (tmsP r s i).length + 1 else 0
def allE (r : R) (s i : Int) : List Int := if okE r s i = true ∧ (dys r s i).length * (tmsP r s i).length < 4000 then allOf (dys r s i) (tmsP r s i) else []
theorem days_mem (r : R) (s : Int) : ∀ (n : Nat) (a x : Int), x ∈ Dy.days r s a n ↔ a ≤ x ∧ x < a + n ∧ Dy.lets r (Dy.about (s / 86400)) (Dy.about x) = true
 | 0, a, x => by simp [Dy.days]; omega
 | n + 1, a, x => by
  rw [show Dy.days r s a (n + 1) = (if Dy.lets r (Dy.about (s / 86400)) (Dy.about a) = true then [a] else []) ++ Dy.days r s (a + 1) n from rfl, List.mem_append, days_mem r s n]
  by_cases hx : x = a
  ·subst hx
   split
   ·rename_i h; simp [h]; omega
   ·rename_i h
    constructor
    ·rintro (h1 | h1)
     ·cases h1
     ·omega
    ·exact fun h1 => absurd h1.2.2 h
  ·constructor
   ·rintro (h1 | h1)
    ·split at h1
     ·rw [List.mem_singleton] at h1; exact absurd h1 hx
     ·cases h1
    ·exact ⟨by omega, by omega, h1.2.2⟩
   ·exact fun h1 => .inr ⟨by omega, by omega, h1.2.2⟩
theorem days_rise (r : R) (s : Int) : ∀ (n : Nat) (a : Int), (Dy.days r s a n).Pairwise (· < ·)
 | 0, _ => List.Pairwise.nil
 | n + 1, a => by
  rw [show Dy.days r s a (n + 1) = (if Dy.lets r (Dy.about (s / 86400)) (Dy.about a) = true then [a] else []) ++ Dy.days r s (a + 1) n from rfl, List.pairwise_append]
  refine ⟨by split <;> simp, days_rise r s n _, fun x hx y hy => ?_⟩
  have := (days_mem r s n _ _).1 hy
  split at hx
  ·rw [List.mem_singleton] at hx; omega
  ·cases hx
theorem dys_bd {r : R} {s i x : Int} (hx : x ∈ dys r s i) : 0 ≤ x ∧ x ≤ 3652058 := by
 unfold dys Dy.daysOf at hx
 split at hx
 ·cases hx
 ·have := (days_mem r s _ _ _).1 hx
  omega
theorem secs_bd {r : R} {s a b x : Int} (hx : x ∈ Tm.secsOf r s a b) : 0 ≤ x ∧ x ≤ 86399 ∧ a ≤ x ∧ x < b := by
 rw [Tm.secs_eq] at hx
 unfold Tm.rsecs at hx
 split at hx
 ·have := Tm.mem_RH.1 hx
  omega
 ·cases hx
theorem tms_bd {r : R} {s i x : Int} (hx : x ∈ tmsP r s i) : 0 ≤ x ∧ x ≤ 86399 := by
 unfold tmsP tms at hx
 split at hx
 ·cases hx
 ·split at hx <;> (have := secs_bd hx; omega)
theorem tms_le (r : R) (s i : Int) : (tmsP r s i).length ≤ 86400 := by
 unfold tmsP tms
 have h : ∀ a b, (Tm.secsOf r s a b).length ≤ 86400 := fun a b => by
  rw [Tm.secs_eq]
  unfold Tm.rsecs
  split
  ·exact Tm.RH_le r s a b (by omega)
  ·simp
 split
 ·simp
 ·split <;> exact h _ _
theorem prod_le (r : R) (s i : Int) : (dys r s i).length * (tmsP r s i).length ≤ 31622400 := by
 have := Nat.mul_le_mul (dys_le r s i) (tms_le r s i)
 omega
theorem own_at {w W : World} {B c : Nat} {a : Option Addr} {l : List Int} (h : OwnI w B (.slice a l.length c) l) (hB : Below w.heap.size w W) {k : Nat} (hk : k < l.length) :
  ∃ b, a = some ⟨b, 0, none⟩ ∧ b < W.heap.size ∧ W.cell? ⟨b, k, none⟩ = some (.int .i64 l[k]) ∧ l.length ≤ c := by
 obtain ⟨g, cap, hv, hb, hg, hc, _, hcell⟩ := ownsRow_pos h (by omega)
 injection hv with e1 _ e3
 subst e1; subst e3
 refine ⟨g, rfl, Nat.lt_of_lt_of_le hg hB.size, ?_, hc⟩
 rw [hB.cell (p := ⟨g, k, none⟩) hg]
 exact hcell k _ (by simp [ic, hk])
set_option maxHeartbeats 4000000 in
set_option maxRecDepth 100000 in
theorem cost_any (w : World) (r : R) (sv : Nat → Value) (s i : Int) (hT : Tab w) (hL : Lists w r sv) (hW : Wide r) :
  Calls Tryz.prog 12 #[ruleV r sv, .int .i64 s, .int .i64 i] w fun e w' => e = .returned (.int .i64 (costE r s i)) ∧ Below w.heap.size w w' := by
 unfold costE
 cases ho : okE r s i
 ·have FP : ∀ W, Below w.heap.size w W → Calls Tryz.prog 36 #[ruleV r sv, .int .i64 s, .int .i64 i] W fun e w' => e = .returned (.tuple #[.slice none 0 0, .slice none 0 0, .bool false]) ∧ Below W.heap.size W w' := fun W hB => parts_no W r sv s i (hT.later hB) (hL.later hB) hW ho
  rw [if_neg (by decide)]
  unfold ruleV ruleC at *
  replace FP := Lib.hid FP
  clear hT hL hW ho
  go_enter Tryz.func12, Tryz.ntmps12
  go_wp2_with (first
   | (go_at_call 36; (with_reducible refine (FP.out _ (by (repeat' (first|assumption|exact Below.refl _ _|apply Below.next_alloc|apply Below.drew|(apply Below.next;rotate_left;assumption))))).mono ?_); rintro e w1 ⟨rfl, hB1⟩; replace hB1 := Lib.hid hB1))
  go_ret
  exact ⟨rfl, Below.next_allocs' hB1.out⟩
 ·have FP : ∀ W, Below w.heap.size w W → Calls Tryz.prog 36 #[ruleV r sv, .int .i64 s, .int .i64 i] W (GivesP W r s i) := fun W hB => parts_any W r sv s i (hT.later hB) (hL.later hB) hW ho
  rw [if_pos rfl]
  have hp := prod_le r s i
  have n1 := dys_le r s i
  have n2 := tms_le r s i
  unfold GivesP at FP
  unfold ruleV ruleC at *
  generalize dys r s i = ds at *
  generalize tmsP r s i = ts at *
  have hp0 : (0 : Int) ≤ (ds.length : Int) * ts.length := by rw [← Int.natCast_mul]; omega
  have hp1 : (ds.length : Int) * ts.length ≤ 31622400 := by rw [← Int.natCast_mul]; omega
  replace FP := Lib.hid FP
  clear hT hL hW ho hp
  go_enter Tryz.func12, Tryz.ntmps12
  go_wp2_with (first
   | (go_at_call 36; (with_reducible refine (FP.out _ (by (repeat' (first|assumption|exact Below.refl _ _|apply Below.next_alloc|apply Below.drew|(apply Below.next;rotate_left;assumption))))).mono ?_); rintro e w1 ⟨a1, c1, a2, c2, rfl, hO1, hO2, hB1⟩; clear hO1 hO2; replace hB1 := Lib.hid hB1))
  go_ret
  exact ⟨rfl, Below.next_allocs' hB1.out⟩
theorem gives_all {w W : World} {B : Nat} {v : Value} {l m : List Int} (h : OwnI W B v m) (hl : m = l) (hb : w.heap.size ≤ B) (hB : Below w.heap.size w W) : Gives w l (.returned v) W := by subst hl; exact ⟨_, rfl, h.base hb, hB⟩
theorem gives_none {w W : World} (hB : Below w.heap.size w W) : Gives w [] (.returned (.slice none 0 0)) W := ⟨_, rfl, OwnI.nil _ _, hB⟩
set_option maxHeartbeats 4000000 in
set_option maxRecDepth 100000 in
theorem all_no (w : World) (r : R) (sv : Nat → Value) (s i : Int) (hT : Tab w) (hL : Lists w r sv) (hW : Wide r) (ho : okE r s i = false) :
  Calls Tryz.prog 15 #[ruleV r sv, .int .i64 s, .int .i64 i] w (Gives w []) := by
 have FP : ∀ W, Below w.heap.size w W → Calls Tryz.prog 36 #[ruleV r sv, .int .i64 s, .int .i64 i] W fun e w' => e = .returned (.tuple #[.slice none 0 0, .slice none 0 0, .bool false]) ∧ Below W.heap.size W w' := fun W hB => parts_no W r sv s i (hT.later hB) (hL.later hB) hW ho
 unfold ruleV ruleC at *
 replace FP := Lib.hid FP
 clear hT hL hW ho
 go_enter Tryz.func15, Tryz.ntmps15
 go_wp2_with (first
  | (go_at_call 36; (with_reducible refine (FP.out _ (by (repeat' (first|assumption|exact Below.refl _ _|apply Below.next_alloc|apply Below.drew|(apply Below.next;rotate_left;assumption))))).mono ?_); rintro e w1 ⟨rfl, hB1⟩; replace hB1 := Lib.hid hB1))
 go_ret
 exact gives_none (Below.next_allocs' hB1.out)
set_option maxHeartbeats 8000000 in
set_option maxRecDepth 100000 in
theorem all_yes (w : World) (r : R) (sv : Nat → Value) (s i : Int) (hT : Tab w) (hL : Lists w r sv) (hW : Wide r) (ho : okE r s i = true) :
  Calls Tryz.prog 15 #[ruleV r sv, .int .i64 s, .int .i64 i] w (Gives w (if (dys r s i).length * (tmsP r s i).length < 4000 then allOf (dys r s i) (tmsP r s i) else [])) := by
 have FP : ∀ W, Below w.heap.size w W → Calls Tryz.prog 36 #[ruleV r sv, .int .i64 s, .int .i64 i] W (GivesP W r s i) := fun W hB => parts_any W r sv s i (hT.later hB) (hL.later hB) hW ho
 have hp := prod_le r s i
 have n1 := dys_le r s i
 have n2 := tms_le r s i
 have d1 : ∀ x ∈ dys r s i, 0 ≤ x ∧ x ≤ 3652058 := fun x hx => dys_bd hx
 have d2 : ∀ x ∈ tmsP r s i, 0 ≤ x ∧ x ≤ 86399 := fun x hx => tms_bd hx
 unfold GivesP at FP
 unfold ruleV ruleC at *
 generalize dys r s i = ds at *
 generalize tmsP r s i = ts at *
 have hp0 : (0 : Int) ≤ (ds.length : Int) * ts.length := by rw [← Int.natCast_mul]; omega
 have hp1 : (ds.length : Int) * ts.length ≤ 31622400 := by rw [← Int.natCast_mul]; omega
 replace FP := Lib.hid FP
 replace d1 := Lib.hid d1
 replace d2 := Lib.hid d2
 clear hT hL hW ho
 by_cases hm : ds.length * ts.length < 4000
 rotate_left
 ·rw [if_neg hm]
  have hm2 : (4000 : Int) ≤ (ds.length : Int) * ts.length := by rw [← Int.natCast_mul]; omega
  clear hm hp
  go_enter Tryz.func15, Tryz.ntmps15
  go_wp2_with (first
   | (go_at_call 36; (with_reducible refine (FP.out _ (by (repeat' (first|assumption|exact Below.refl _ _|apply Below.next_alloc|apply Below.drew|(apply Below.next;rotate_left;assumption))))).mono ?_); rintro e w1 ⟨a1, c1, a2, c2, rfl, hO1, hO2, hB1⟩; clear hO1 hO2; replace hB1 := Lib.hid hB1))
  go_ret
  exact gives_none (Below.next_allocs' hB1.out)
 rw [if_pos hm]
 have hm2 : (ds.length : Int) * ts.length < 4000 := by rw [← Int.natCast_mul]; omega
 have hm3 := Lib.hid hm
 clear hm hp
 obtain ⟨i0, hi, hz0, hz1, hz2⟩ := info_parts infoInt
 replace hi := Lib.hid hi
 replace hz0 := Lib.hid hz0
 replace hz1 := Lib.hid hz1
 replace hz2 := Lib.hid hz2
 go_enter Tryz.func15, Tryz.ntmps15
 go_wp2_with (first
  | (go_at_call 36; (with_reducible refine (FP.out _ (by (repeat' (first|assumption|exact Below.refl _ _|apply Below.next_alloc|apply Below.drew|(apply Below.next;rotate_left;assumption))))).mono ?_); rintro e w1 ⟨a1, c1, a2, c2, rfl, hO1, hO2, hB1⟩; replace hO1 := Lib.hid hO1; replace hO2 := Lib.hid hO2; replace hB1 := Lib.hid hB1)
  | (refine wpList_make_own _ rfl _ _ _ rfl w1.heap.size 3 i0 _ 1 Tryz.underlying24 hi.out hz0.out hz1.out .i64 .i64 _ (ds.length * ts.length) rfl rfl (by rw [Int.natCast_mul]) (by rw [hz2.out]; have := hm3.out; omega) (by unfold maxLen; have := hm3.out; omega) (Nat.le_refl _) ?_; intro w2 hown2 hg2))
 have b12 := Lib.hid ((Below.refl w1.heap.size w1).grown hg2 (Nat.le_refl _) (fun _ h => by cases h))
 have hown3 : Hid (OwnI w2 w1.heap.size (.slice (some ⟨w1.heap.size, 0, none⟩) 0 (ds.length * ts.length)) []) := Lib.hid hown2
 clear hown2 hg2
 go_loopw [10, 41] (fun v i wr => ∃ k : Nat, k ≤ ds.length ∧ i = .int .i64 k ∧ OwnI wr w1.heap.size v (allOf (ds.take k) ts) ∧ Hid (Below w1.heap.size w1 wr)) (fun _ i _ => ds.length - (intOf i).toNat)
 case atStart => exact ⟨0, by omega, rfl, hown3.out, b12⟩
 case round =>
  obtain ⟨k, hk, rfl, hown, hB⟩ := hrel
  replace hown := Lib.hid hown
  obtain ⟨wo, rfl⟩ : ∃ x, x = wr := ⟨_, rfl⟩
  by_cases hlt : k < ds.length
  ·obtain ⟨b, rfl, hb, hcell, hcap⟩ := own_at hO1.out hB.out hlt
   have hs := Lib.hid (allOf_succ hlt ts)
   obtain ⟨e1, e2⟩ := d1.out ds[k] (List.getElem_mem hlt)
   have hle := Lib.hid (fun d j => all_le hlt d ts j)
   generalize ds[k] = d at *
   go_wp2
   go_loopw [10, 47] (fun v i wr => ∃ j : Nat, j ≤ ts.length ∧ i = .int .i64 j ∧ OwnI wr w1.heap.size v (allOf (ds.take k) ts ++ dayOf d (ts.take j)) ∧ Hid (Below w1.heap.size w1 wr)) (fun _ i _ => ts.length - (intOf i).toNat)
   case atStart => exact ⟨0, by omega, rfl, by rw [List.take_zero]; simpa [dayOf] using hown.out, hB⟩
   case round =>
    obtain ⟨j, hj, rfl, hownj, hBj⟩ := hrel
    replace hownj := Lib.hid hownj
    by_cases hlj : j < ts.length
    ·obtain ⟨bt, rfl, hbt, hcellt, hcapt⟩ := own_at hO2.out hBj.out hlj
     have hsj := Lib.hid (dayOf_succ d hlj)
     obtain ⟨f1, f2⟩ := d2.out ts[j] (List.getElem_mem hlj)
     have hln := hle.out d j
     generalize ts[j] = t at *
     go_wp2_with (first
      | (at_builtin; refine push_int rfl _ _ rfl w1.heap.size _ (allOf (ds.take k) ts ++ dayOf d (ts.take j)) rfl hownj.out rfl (by have := hm3.out; omega) hBj.out.size ?_; intro v5 w5 hown5 hB5))
     go_roundw
     case rel => exact ⟨j + 1, by omega, by go_num, by rw [hsj.out, ← List.append_assoc]; exact hown5, Lib.hid (hBj.out.trans hB5)⟩
     case measure => simp [intOf]; omega
    ·have hje := Lib.hid (show ts.take j = ts by rw [show j = ts.length by omega, List.take_length])
     go_wp2
     go_roundw
     case rel => exact ⟨k + 1, by omega, by go_num, by rw [hs.out]; have := hownj.out; rw [hje.out] at this; exact this, hBj⟩
     case measure => simp [intOf]; omega
  ·have hke := Lib.hid (show ds.take k = ds by rw [show k = ds.length by omega, List.take_length])
   go_wp2
   go_ret
   exact gives_all hown.out (by rw [hke.out]) (Below.next_allocs' hB1.out).size (Below.next (Below.next_allocs' hB1.out) hB.out)
theorem all_any (w : World) (r : R) (sv : Nat → Value) (s i : Int) (hT : Tab w) (hL : Lists w r sv) (hW : Wide r) : Calls Tryz.prog 15 #[ruleV r sv, .int .i64 s, .int .i64 i] w (Gives w (allE r s i)) := by
 unfold allE
 cases ho : okE r s i
 ·rw [if_neg (by simp)]
  exact all_no w r sv s i hT hL hW ho
 ·have h := all_yes w r sv s i hT hL hW ho
  simpa using h
end Go.Proofs.YtkbohijlhhpfbaaGreatDoor.Xp
/- What SetPos picks of a period: the walk through expand's Of. -/
namespace Go.Proofs.YtkbohijlhhpfbaaGreatDoor.Xp
open Go.RowKit Ru Ut Cw Ra
def ofE (r : R) (s i : Int) : List Int := if r.setpos.length = 0 then allE r s i else picks r.setpos (allE r s i)
theorem allE_len (r : R) (s i : Int) : (allE r s i).length ≤ 3999 := by
 unfold allE
 split
 ·rename_i h; rw [allOf_length]; omega
 ·simp
theorem setpos_fine {r : R} (hc : chkR r = 0) : r.setpos.length ≤ 12 ∧ ∀ x ∈ r.setpos, -366 ≤ x ∧ x ≤ 366 := by
 have h := Tm.err_zero (Tm.chk_errs hc) 12 (by decide) (by decide)
 unfold err at h
 rw [if_neg (by decide)] at h
 obtain ⟨h1, h2, -⟩ := Tm.wrong_zero h
 refine ⟨h1, fun x hx => ?_⟩
 have hb := h2 x hx
 rw [show hi 12 = 366 from rfl, show lo 12 = 1 from rfl] at hb
 simp only [bad, absI, Bool.or_eq_false_iff, decide_eq_false_iff_not, Bool.and_eq_false_iff] at hb
 obtain ⟨b1, b2, b3, b4⟩ := hb
 have b5 : ¬ 366 < if x < 0 then -x else x := of_decide_eq_false b3
 split at b5 <;> omega
theorem allE_ok {r : R} {s i : Int} (h : 0 < (allE r s i).length) : chkR r = 0 := by
 unfold allE at h
 split at h
 ·rename_i ho
  have h1 := ho.1
  unfold okE at h1
  rw [Bool.and_eq_true] at h1
  exact (Tm.may_parts h1.1).2.2
 ·simp at h
theorem picks_eq (ps l : List Int) : (Tm.sortI (ats l.length ps)).map (fun k => l[k.toNat]?.getD 0) = picks ps l := by
 have h : Tm.sortI (ats l.length ps) = ((List.range l.length).filter (isPick ps l.length)).map fun k : Nat => (k : Int) := by
  refine Tm.rise_ext (Tm.sortI_rise (ats_nodup _ _)) ?_ fun x => ?_
  ·rw [List.pairwise_map]
   exact ((List.pairwise_lt_range).filter _).imp fun h => by omega
  ·rw [Tm.sortI_mem, List.mem_map]
   constructor
   ·intro hx
    have hb := (mem_ats.1 hx).1
    refine ⟨x.toNat, ?_, by omega⟩
    rw [List.mem_filter, List.mem_range]
    refine ⟨by omega, ?_⟩
    have e : (x.toNat : Int) = x := by omega
    rw [← e, mem_ats' (by omega)] at hx
    unfold isPick
    simpa using hx
   ·rintro ⟨k, hk, rfl⟩
    rw [List.mem_filter, List.mem_range] at hk
    rw [mem_ats' hk.1]
    have := hk.2
    unfold isPick at this
    simpa using this
 rw [h, List.map_map]
 rfl
theorem rowJ_store {W : World} {Bt : Nat} {u v : Value} {l : List Int} (h1 : Bt < W.heap.size) (hf : W.frozen? ⟨Bt, 0, none⟩ = false) (hc : W.cell? ⟨Bt, 0, none⟩ = some u) (ho : OwnI W (Bt + 1) v l) : Tm.rowJ Bt l (W.setCell ⟨Bt, 0, none⟩ v) :=
 ⟨by simpa using h1, by simpa using hf, v, World.cell?_setCell_same' _ _ _ (by rw [hc]; rfl), ownsRow_setCell_below ho (by simp) _⟩
theorem pickAt_no {n : Nat} {acc : List Int} {k : Int} (h : ¬ (0 ≤ k ∧ k < n ∧ k ∉ acc)) : pickAt n acc k = acc := by unfold pickAt; rw [if_neg h]
theorem pickAt_yes {n : Nat} {acc : List Int} {k : Int} (h : 0 ≤ k ∧ k < n ∧ k ∉ acc) : pickAt n acc k = acc ++ [k] := by unfold pickAt; rw [if_pos h]
set_option maxHeartbeats 2000000 in
set_option maxRecDepth 100000 in
theorem pick_any {W : World} {Ba Bt n c : Nat} {a : Option Addr} {acc : List Int} (k : Int) (hc : W.cell? ⟨Ba, 0, none⟩ = some (.slice a n c)) (hJ : Tm.rowJ Bt acc W) (hn : acc.length ≤ 1000) :
  Calls Tryz.prog 41 #[.int .i64 k, .pointer (some ⟨Ba, 0, none⟩), .pointer (some ⟨Bt, 0, none⟩)] W fun e w' => e = .returned (.tuple #[]) ∧ Tm.rowJ Bt (pickAt n acc k) w' ∧ Below Bt W w' := by
 have hJ0 := hJ
 obtain ⟨g1, g2, v, g3, g4⟩ := hJ
 have FC := contains_any k g4.ints (by omega)
 replace hJ0 := Lib.hid hJ0
 replace g4 := Lib.hid g4
 by_cases h0 : 0 ≤ k
 ·by_cases h1 : k < n
  ·by_cases hm : k ∈ acc
   ·rw [decide_eq_true hm] at FC
    have hr := Lib.hid (pickAt_no (n := n) (acc := acc) (k := k) (by simp [hm]))
    replace FC := Lib.hid FC
    clear hm
    go_enter Tryz.func41, Tryz.ntmps41
    go_wp2_with (first | (go_at_call 42; refine (FC.out).mono ?_; rintro e w' ⟨rfl, rfl⟩))
    go_end0
    exact ⟨rfl, by rw [hr.out]; exact hJ0.out, Below.refl _ _⟩
   ·rw [decide_eq_false hm] at FC
    have hr := Lib.hid (pickAt_yes (n := n) (acc := acc) (k := k) ⟨h0, h1, hm⟩)
    replace FC := Lib.hid FC
    clear hm
    go_enter Tryz.func41, Tryz.ntmps41
    go_wp2_with (first
     | (go_at_call 42; refine (FC.out).mono ?_; rintro e w' ⟨rfl, rfl⟩)
     | (at_builtin; refine push_int rfl _ _ rfl (Bt + 1) _ acc rfl g4.out rfl (by omega) (by omega) ?_; intro v5 w5 hown5 hB5; obtain ⟨a5, q5, hv5⟩ := hown5.slice; subst hv5; have c5 := (hB5.cell (p := ⟨Bt, 0, none⟩) (Nat.lt_succ_self _)).trans g3; have f5 := (hB5.frozen (p := ⟨Bt, 0, none⟩) (Nat.lt_succ_self _)).trans g2; have z5 : Bt < w5.heap.size := Nat.lt_of_lt_of_le g1 hB5.size; replace hown5 := Lib.hid hown5))
    go_end0
    exact ⟨rfl, by rw [hr.out]; exact rowJ_store z5 f5 c5 (by simpa only [List.length_append, List.length_singleton] using hown5.out), (hB5.mono (Nat.le_succ _)).setCell (Nat.le_refl _) _⟩
  ·have hr := Lib.hid (pickAt_no (n := n) (acc := acc) (k := k) (fun h => h1 h.2.1))
   clear FC
   go_enter Tryz.func41, Tryz.ntmps41
   go_wp2
   go_end0
   exact ⟨rfl, by rw [hr.out]; exact hJ0.out, Below.refl _ _⟩
 ·have hr := Lib.hid (pickAt_no (n := n) (acc := acc) (k := k) (fun h => h0 h.1))
  clear FC
  go_enter Tryz.func41, Tryz.ntmps41
  go_wp2
  go_end0
  exact ⟨rfl, by rw [hr.out]; exact hJ0.out, Below.refl _ _⟩
end Go.Proofs.YtkbohijlhhpfbaaGreatDoor.Xp
/- What SetPos picks of a period: the walk through expand's Of, the loops. -/
namespace Go.Proofs.YtkbohijlhhpfbaaGreatDoor.Xp
open Go.RowKit Ru Ut Cw Ra
theorem ints_at {w W : World} {v : Value} {a : Option Addr} {c n : Nat} {l : List Int} (h : Ints w v l) (hv : v = .slice a n c) (hB : Below w.heap.size w W) {k : Nat} (hk : k < l.length) :
  ∃ b o, a = some ⟨b, o, none⟩ ∧ b < W.heap.size ∧ W.cell? ⟨b, o + k, none⟩ = some (.int .i64 l[k]) ∧ l.length ≤ c := by
 rcases h with ⟨rfl, _⟩ | ⟨_, b, o, cap, rfl, hb, hc, hcell⟩
 ·simp at hk
 ·injection hv with e1 e2 e3
  subst e1; subst e2; subst e3
  exact ⟨b, o, rfl, Nat.lt_of_lt_of_le hb hB.size, (hB.cell (p := ⟨b, o + k, none⟩) hb).trans (hcell k hk), hc⟩
theorem ints_slice {w : World} {v : Value} {l : List Int} (h : Ints w v l) : ∃ a c, v = .slice a l.length c := by
 rcases h with ⟨rfl, a, c, rfl, _⟩ | ⟨_, b, o, c, rfl, _⟩
 ·exact ⟨a, c, rfl⟩
 ·exact ⟨_, c, rfl⟩
set_option maxHeartbeats 4000000 in
set_option maxRecDepth 100000 in
theorem of_plain (w : World) (r : R) (sv : Nat → Value) (s i : Int) (hT : Tab w) (hL : Lists w r sv) (hW : Wide r) (h0 : r.setpos.length = 0) :
  Calls Tryz.prog 17 #[ruleV r sv, .int .i64 s, .int .i64 i] w (Gives w (allE r s i)) := by
 have FA : ∀ W, Below w.heap.size w W → Calls Tryz.prog 15 #[ruleV r sv, .int .i64 s, .int .i64 i] W (Gives W (allE r s i)) := fun W hB => all_any W r sv s i (hT.later hB) (hL.later hB) hW
 have BX := fun W => @Tm.rboxT w r sv 33 W
 obtain ⟨a12, c12, h12⟩ := ints_slice (hL.1 12 (by decide) (by decide) (by decide))
 rw [show (lst r 12).length = r.setpos.length from rfl, h0] at h12
 generalize allE r s i = l at *
 unfold ruleV ruleC at *
 rw [h12] at FA BX ⊢
 replace FA := Lib.hid FA
 replace BX := Lib.hid BX
 clear hT hL hW h0 h12
 go_enter Tryz.func17, Tryz.ntmps17
 go_wp2_with (first
  | (go_at_call 15; (with_reducible refine (FA.out _ (by (repeat' (first|assumption|exact Below.refl _ _|apply Below.next_alloc|apply Below.drew|(apply Below.next;rotate_left;assumption))))).mono ?_); rintro e w1 ⟨v1, rfl, hO1, hB1⟩; obtain ⟨a1, c1, hv1⟩ := hO1.slice; subst hv1; replace hO1 := Lib.hid hO1; replace hB1 := Lib.hid hB1; obtain ⟨y0, x0, x1, x2, x3, x4, x5, x6, x7, x8, x9, x10, x11, x12, x13, x14⟩ := BX.out w1 hB1.out))
 go_ret
 exact gives_all (hO1.out.below (Below.next_alloc (Below.refl _ _) _)) rfl (by simp) (Below.next_alloc (Below.next_allocs' hB1.out) _)
set_option maxHeartbeats 4000000 in
set_option maxRecDepth 100000 in
theorem of_empty (w : World) (r : R) (sv : Nat → Value) (s i : Int) (hT : Tab w) (hL : Lists w r sv) (hW : Wide r) (h0 : 0 < r.setpos.length) (h1 : allE r s i = []) :
  Calls Tryz.prog 17 #[ruleV r sv, .int .i64 s, .int .i64 i] w (Gives w []) := by
 have FA : ∀ W, Below w.heap.size w W → Calls Tryz.prog 15 #[ruleV r sv, .int .i64 s, .int .i64 i] W (Gives W (allE r s i)) := fun W hB => all_any W r sv s i (hT.later hB) (hL.later hB) hW
 have BX := fun W => @Tm.rboxT w r sv 33 W
 have hmf : ∀ (fn : Fn) (first cap : Array Value) (w : World), (Instr.makeFunc fn first cap).run Tryz.prog w = .ok (.func fn first cap) w := fun _ _ _ _ => rfl
 obtain ⟨a12, c12, h12⟩ := ints_slice (hL.1 12 (by decide) (by decide) (by decide))
 rw [show (lst r 12).length = r.setpos.length from rfl] at h12
 generalize r.setpos.length = n at *
 rw [h1] at FA
 unfold ruleV ruleC at *
 rw [h12] at FA BX ⊢
 replace FA := Lib.hid FA
 replace BX := Lib.hid BX
 clear hT hL hW h12 h1
 go_enter Tryz.func17, Tryz.ntmps17
 go_wp2_with (first
  | (go_at_call 15; (with_reducible refine (FA.out _ (by (repeat' (first|assumption|exact Below.refl _ _|apply Below.next_alloc|apply Below.drew|(apply Below.next;rotate_left;assumption))))).mono ?_); rintro e w1 ⟨v1, rfl, hO1, hB1⟩; obtain ⟨a1, c1, hv1⟩ := hO1.slice; subst hv1; replace hO1 := Lib.hid hO1; replace hB1 := Lib.hid hB1; obtain ⟨y0, x0, x1, x2, x3, x4, x5, x6, x7, x8, x9, x10, x11, x12, x13, x14⟩ := BX.out w1 hB1.out))
 go_ret
 exact gives_none (Below.next_alloc (Below.next_alloc (Below.next_allocs' hB1.out) _) _)
theorem at_head {w1 : World} {a1 : Option Addr} {c1 : Nat} {l : List Int} (t t' : TypeId) : ((w1.alloc (.cells #[.slice a1 l.length c1] t)).alloc (.cells #[.slice none 0 0] t')).cell? ⟨w1.heap.size, 0, none⟩ = some (.slice a1 l.length c1) ∧
  Tm.rowJ (w1.heap.size + 1) [] ((w1.alloc (.cells #[.slice a1 l.length c1] t)).alloc (.cells #[.slice none 0 0] t')) ∧ ((w1.alloc (.cells #[.slice a1 l.length c1] t)).alloc (.cells #[.slice none 0 0] t')).heap.size = w1.heap.size + 2 := by
 refine ⟨(World.cell?_alloc_past _ _ _ (by simp)).trans (World.cell?_alloc_new w1 #[.slice a1 l.length c1] t 0), ⟨by simp, ?_, .slice none 0 0, ?_, OwnI.nil _ _⟩, by simp⟩
 ·exact World.frozen?_alloc_at _ _ _ _ (by simp)
 ·rw [World.cell?_alloc_at _ _ _ _ (by simp)]; rfl
set_option maxHeartbeats 16000000 in
set_option maxRecDepth 100000 in
theorem of_main (w : World) (r : R) (sv : Nat → Value) (s i : Int) (hT : Tab w) (hL : Lists w r sv) (hW : Wide r) (h0 : 0 < r.setpos.length) (h1 : 0 < (allE r s i).length) :
  Calls Tryz.prog 17 #[ruleV r sv, .int .i64 s, .int .i64 i] w (Gives w (picks r.setpos (allE r s i))) := by
 have FA : ∀ W, Below w.heap.size w W → Calls Tryz.prog 15 #[ruleV r sv, .int .i64 s, .int .i64 i] W (Gives W (allE r s i)) := fun W hB => all_any W r sv s i (hT.later hB) (hL.later hB) hW
 have BX := fun W => @Tm.rboxT w r sv 33 W
 have hmf : ∀ (fn : Fn) (first cap : Array Value) (w : World), (Instr.makeFunc fn first cap).run Tryz.prog w = .ok (.func fn first cap) w := fun _ _ _ _ => rfl
 have hI := hL.1 12 (by decide) (by decide) (by decide)
 rw [show lst r 12 = r.setpos from rfl] at hI
 obtain ⟨a12, c12, h12⟩ := ints_slice hI
 obtain ⟨p1, p2⟩ := setpos_fine (allE_ok h1)
 have hl := allE_len r s i
 generalize allE r s i = l at *
 generalize r.setpos = ps at *
 unfold ruleV ruleC at *
 rw [h12] at FA BX hI ⊢
 replace FA := Lib.hid FA
 replace BX := Lib.hid BX
 replace hI := Lib.hid hI
 replace p2 := Lib.hid p2
 have e1 : ((ps.length : Int) == 0) = false := by rw [beq_eq_false_iff_ne]; omega
 have e2 : ((l.length : Int) == 0) = false := by rw [beq_eq_false_iff_ne]; omega
 clear hT hL hW h12
 go_enter Tryz.func17, Tryz.ntmps17
 go_wp2_with (first
  | (go_at_call 15; (with_reducible refine (FA.out _ (by (repeat' (first|assumption|exact Below.refl _ _|apply Below.next_alloc|apply Below.drew|(apply Below.next;rotate_left;assumption))))).mono ?_); rintro e w1 ⟨v1, rfl, hO1, hB1⟩; obtain ⟨a1, c1, hv1⟩ := hO1.slice; subst hv1; replace hO1 := Lib.hid hO1; replace hB1 := Lib.hid hB1; obtain ⟨y0, x0, x1, x2, x3, x4, x5, x6, x7, x8, x9, x10, x11, x12, x13, x14⟩ := BX.out w1 hB1.out))
 have b1 := Lib.hid (Below.next_allocs' hB1.out)
 obtain ⟨g1, g2, g3⟩ := at_head (w1 := w1) (a1 := a1) (c1 := c1) (l := l) 24 24
 have b10 := Lib.hid (Below.next_alloc (Below.next_alloc (Below.refl _ w1) (.cells #[.slice a1 l.length c1] 24)) (.cells #[.slice none 0 0] 24))
 replace g2 := Lib.hid g2
 generalize (w1.alloc (.cells #[.slice a1 l.length c1] 24)).alloc (.cells #[.slice none 0 0] 24) = W0 at *
 go_loopw [31] (fun i wr => ∃ k : Nat, k ≤ ps.length ∧ i = .int .i64 k ∧ Tm.rowJ (w1.heap.size + 1) (ats l.length (ps.take k)) wr ∧ Hid (Below (w1.heap.size + 1) W0 wr)) (fun i _ => ps.length - (intOf i).toNat)
 case atStart => exact ⟨0, by omega, rfl, g2.out, Lib.hid (Below.refl _ _)⟩
 case round =>
  obtain ⟨k, hk, rfl, hJ, hB⟩ := hrel
  have hca : wr.cell? ⟨w1.heap.size, 0, none⟩ = some (.slice a1 l.length c1) := (hB.out.cell (p := ⟨w1.heap.size, 0, none⟩) (Nat.lt_succ_self _)).trans g1
  have hza : w1.heap.size < wr.heap.size := by have := hB.out.size; omega
  have b1r := Lib.hid (b1.out.trans ((b10.out.mono b1.out.size).trans (hB.out.mono (by have := b1.out.size; omega))))
  have hln := ats_len l.length (ps.take k)
  rw [List.length_take, Nat.min_eq_left hk] at hln
  by_cases hlt : k < ps.length
  ·obtain ⟨bp, op, rfl, hbp, hcp, hcap⟩ := ints_at hI.out rfl b1r.out hlt
   have hs := Lib.hid (ats_succ l.length hlt)
   obtain ⟨q1, q2⟩ := p2.out ps[k] (List.getElem_mem hlt)
   generalize ps[k] = p at *
   have PA := fun k => pick_any (Bt := w1.heap.size + 1) k hca hJ (by omega)
   replace PA := Lib.hid PA
   replace hJ := Lib.hid hJ
   by_cases hp : 0 < p
   ·have hpl := Lib.hid (show place l.length p = p - 1 by unfold place; rw [if_pos hp])
    go_wp2_with (first
     | (go_at_call 41; (with_reducible refine (PA.out _).mono ?_); rintro e w4 ⟨rfl, hJ4, hB4⟩))
    go_roundw
    case rel => exact ⟨k + 1, by omega, by go_num, by rw [hs.out]; unfold pick; rw [hpl.out]; exact hJ4, Lib.hid (hB.out.trans hB4)⟩
    case measure => simp [intOf]; omega
   ·have hpl := Lib.hid (show place l.length p = l.length + p by unfold place; rw [if_neg hp])
    go_wp2_with (first
     | (go_at_call 41; (with_reducible refine (PA.out _).mono ?_); rintro e w4 ⟨rfl, hJ4, hB4⟩))
    go_roundw
    case rel => exact ⟨k + 1, by omega, by go_num, by rw [hs.out]; unfold pick; rw [hpl.out]; exact hJ4, Lib.hid (hB.out.trans hB4)⟩
    case measure => simp [intOf]; omega
  ·have hke : ps.take k = ps := by rw [show k = ps.length by omega, List.take_length]
   rw [hke] at hJ
   obtain ⟨j1, j2, v, j3, j4⟩ := hJ
   obtain ⟨av, cv, rfl⟩ := j4.slice
   have SO := Tm.sortI_any j4 (by omega) (show (ats l.length ps).length ≤ 1000 by have := ats_len l.length ps; omega)
   have hSl := Tm.sortI_length (ats l.length ps)
   have hal := ats_len l.length ps
   have hpe := Lib.hid (picks_eq ps l)
   have hSb := Lib.hid (fun x (hx : x ∈ Tm.sortI (ats l.length ps)) => (mem_ats.1 (Tm.sortI_mem.1 hx)).1)
   generalize Tm.sortI (ats l.length ps) = S at *
   generalize ats l.length ps = A at *
   have hS12 : S.length ≤ 12 := by omega
   rw [← hSl] at j3 SO
   replace SO := Lib.hid SO
   have bw := Lib.hid (b10.out.trans (hB.out.mono (Nat.le_succ _)))
   clear hke j4 hSl hal hln FA BX x0 x1 x2 x3 x4 x5 x6 x7 x8 x9 x10 x11 x12 x13 x14
   go_wp2_with (first
    | (go_at_call 43; (with_reducible refine SO.out.mono ?_); rintro e w5 ⟨rfl, hO5, hB5⟩; have d1 := (hB5.cell (p := ⟨w1.heap.size + 1, 0, none⟩) (Nat.lt_succ_self _)).trans j3; have d0 := (hB5.cell (p := ⟨w1.heap.size, 0, none⟩) (by show w1.heap.size < w1.heap.size + 1 + 1; omega)).trans hca; have z5 : w1.heap.size + 1 < w5.heap.size := Nat.lt_of_lt_of_le j1 hB5.size; have z5b : w1.heap.size < w5.heap.size := Nat.lt_of_succ_lt z5; replace hO5 := Lib.hid hO5; have bw5 := Lib.hid (bw.out.trans (hB5.mono (by omega)))))
   have b5 := Lib.hid (b1.out.trans (bw5.out.mono b1.out.size))
   clear b1r bw SO hB hca hza j1 j2 j3
   go_loopw [12, 52] (fun v j wr => ∃ q : Nat, q ≤ S.length ∧ j = .int .i64 q ∧ OwnI wr w5.heap.size v ((S.take q).map fun k => l[k.toNat]?.getD 0) ∧ Hid (Below w5.heap.size w5 wr)) (fun _ j _ => S.length - (intOf j).toNat)
   case atStart => exact ⟨0, by omega, rfl, OwnI.nil _ _, Lib.hid (Below.refl _ _)⟩
   case round =>
    obtain ⟨q, hq, rfl, hown, hB⟩ := hrel
    replace hown := Lib.hid hown
    by_cases hlt : q < S.length
    ·obtain ⟨b, rfl, hb, hcell, hcap⟩ := own_at hO5.out hB.out hlt
     obtain ⟨x0, x1⟩ := hSb.out S[q] (List.getElem_mem hlt)
     have hs : (S.take (q + 1)).map (fun k => l[k.toNat]?.getD 0) = (S.take q).map (fun k => l[k.toNat]?.getD 0) ++ [l[S[q].toNat]?.getD 0] := by rw [take_snoc hlt, List.map_append]; rfl
     generalize S[q] = x at *
     obtain ⟨kn, rfl⟩ : ∃ kn : Nat, x = kn := ⟨x.toNat, by omega⟩
     have hkn : kn < l.length := by omega
     have hc7 : wr.cell? ⟨w1.heap.size, 0, none⟩ = some (.slice a1 l.length c1) := (hB.out.cell (p := ⟨w1.heap.size, 0, none⟩) z5b).trans d0
     obtain ⟨b2, rfl, hb2, hcell2, hcap2⟩ := own_at hO1.out (Below.next bw5.out hB.out) hkn
     rw [Int.toNat_natCast, List.getElem?_eq_getElem hkn, Option.getD_some] at hs
     replace hs := Lib.hid hs
     have hlq : ((S.take q).map (fun k => l[k.toNat]?.getD 0)).length ≤ 12 := by rw [List.length_map, List.length_take]; omega
     generalize l[kn] = y at *
     go_wp2_with (first
      | (at_builtin; refine push_int rfl _ _ rfl w5.heap.size _ _ rfl hown.out rfl ?_ ?_ ?_; exact Nat.le_trans hlq (by decide); exact hB.out.size; intro v6 w6 hown6 hB6))
     go_roundw
     case rel => exact ⟨q + 1, by omega, by go_num, by rw [hs.out]; exact hown6, Lib.hid (hB.out.trans hB6)⟩
     case measure => simp [intOf]; omega
    ·have hqe := Lib.hid (show S.take q = S by rw [show q = S.length by omega, List.take_length])
     go_wp2
     go_ret
     exact gives_all hown.out (by rw [hqe.out]; exact hpe.out) b5.out.size (Below.next b5.out hB.out)
theorem of_any (w : World) (r : R) (sv : Nat → Value) (s i : Int) (hT : Tab w) (hL : Lists w r sv) (hW : Wide r) : Calls Tryz.prog 17 #[ruleV r sv, .int .i64 s, .int .i64 i] w (Gives w (ofE r s i)) := by
 unfold ofE
 by_cases h0 : r.setpos.length = 0
 ·rw [if_pos h0]; exact of_plain w r sv s i hT hL hW h0
 ·rw [if_neg h0]
  by_cases h1 : allE r s i = []
  ·rw [h1]
   exact of_empty w r sv s i hT hL hW (by omega) h1
  ·exact of_main w r sv s i hT hL hW (by omega) (List.length_pos_iff.2 h1)
end Go.Proofs.YtkbohijlhhpfbaaGreatDoor.Xp
/- A set by value; the walks through rset's Check and spans (printed by gen_set.py). -/
namespace Go.Proofs.YtkbohijlhhpfbaaGreatDoor.Rs
open Go.RowKit Ru Ut Cw Ra Xp
structure St where
 kind : Int
 sec : Int
 rule : R
 inn : List (Int × Int)
 out : List (Int × Int)
def setC (s : St) (sv : Nat → Value) (vi vo : Value) : Array Value := #[.int .u8 s.kind, .int .i64 s.sec, .int .u8 s.rule.freq, .int .i64 s.rule.interval, .int .i64 s.rule.count, .int .u8 s.rule.uk, .int .i64 s.rule.us, sv 4, sv 5, sv 6, sv 7, sv 8, sv 9, sv 10, sv 11, sv 12, .int .i64 s.rule.wkst, vi, vo]
def setV (s : St) (sv : Nat → Value) (vi vo : Value) : Value := .agg (setC s sv vi vo)
def LS (W : World) (s : St) (sv : Nat → Value) (vi vo : Value) : Prop := Lists W s.rule sv ∧ Vals W vi s.inn ∧ Vals W vo s.out
theorem LS.later {W W2 : World} {s : St} {sv : Nat → Value} {vi vo : Value} (h : LS W s sv vi vo) (hB : Below W.heap.size W W2) : LS W2 s sv vi vo := ⟨h.1.later hB, h.2.1.below hB, h.2.2.below hB⟩
def WS (s : St) : Prop := Wide s.rule ∧ (0 ≤ s.kind ∧ s.kind ≤ 255) ∧ KindsOk s.inn ∧ KindsOk s.out ∧ s.inn.length ≤ 1000 ∧ s.out.length ≤ 1000
def timed (r : R) : Prop := r.freq < 3 ∨ 0 < r.hour.length ∨ 0 < r.min.length ∨ 0 < r.sec.length
instance (r : R) : Decidable (timed r) := by unfold timed; infer_instance
def chkS (s : St) : Int :=
 if Mo.chk s.kind s.sec ≠ 0 then Mo.chk s.kind s.sec else if chkR s.rule ≠ 0 then chkR s.rule
 else if s.rule.uk ≠ 0 ∧ s.rule.uk ≠ s.kind then 9 else if timed s.rule ∧ s.kind = 1 then 9
 else if 12 < s.inn.length ∨ 12 < s.out.length then 20 else if alike s.kind s.inn ≠ 0 then alike s.kind s.inn else alike s.kind s.out
theorem sbox (w : World) (s : St) (sv : Nat → Value) (vi vo : Value) (t : TypeId) {W : World} (hB : Below (w.alloc (.cells (setC s sv vi vo) t)).heap.size (w.alloc (.cells (setC s sv vi vo) t)) W) : w.heap.size < W.heap.size ∧ W.cell? ⟨w.heap.size, 0, none⟩ = some (.int .u8 s.kind) ∧ W.cell? ⟨w.heap.size, 1, none⟩ = some (.int .i64 s.sec) ∧ W.cell? ⟨w.heap.size, 2, none⟩ = some (.int .u8 s.rule.freq) ∧ W.cell? ⟨w.heap.size, 3, none⟩ = some (.int .i64 s.rule.interval) ∧ W.cell? ⟨w.heap.size, 4, none⟩ = some (.int .i64 s.rule.count) ∧ W.cell? ⟨w.heap.size, 5, none⟩ = some (.int .u8 s.rule.uk) ∧ W.cell? ⟨w.heap.size, 6, none⟩ = some (.int .i64 s.rule.us) ∧ W.cell? ⟨w.heap.size, 7, none⟩ = some (sv 4) ∧ W.cell? ⟨w.heap.size, 8, none⟩ = some (sv 5) ∧ W.cell? ⟨w.heap.size, 9, none⟩ = some (sv 6) ∧ W.cell? ⟨w.heap.size, 10, none⟩ = some (sv 7) ∧ W.cell? ⟨w.heap.size, 11, none⟩ = some (sv 8) ∧ W.cell? ⟨w.heap.size, 12, none⟩ = some (sv 9) ∧ W.cell? ⟨w.heap.size, 13, none⟩ = some (sv 10) ∧ W.cell? ⟨w.heap.size, 14, none⟩ = some (sv 11) ∧ W.cell? ⟨w.heap.size, 15, none⟩ = some (sv 12) ∧ W.cell? ⟨w.heap.size, 16, none⟩ = some (.int .i64 s.rule.wkst) ∧ W.cell? ⟨w.heap.size, 17, none⟩ = some (vi) ∧ W.cell? ⟨w.heap.size, 18, none⟩ = some (vo) := by
 have hz := hB.size
 rw [World.size_alloc] at hz
 have k : ∀ i v, (setC s sv vi vo)[i]? = some v → W.cell? ⟨w.heap.size, i, none⟩ = some v := fun i v h => (hB.cell (p := ⟨w.heap.size, i, none⟩) (by simp)).trans ((World.cell?_alloc_new w _ t i).trans h)
 exact ⟨by omega, k 0 _ rfl, k 1 _ rfl, k 2 _ rfl, k 3 _ rfl, k 4 _ rfl, k 5 _ rfl, k 6 _ rfl, k 7 _ rfl, k 8 _ rfl, k 9 _ rfl, k 10 _ rfl, k 11 _ rfl, k 12 _ rfl, k 13 _ rfl, k 14 _ rfl, k 15 _ rfl, k 16 _ rfl, k 17 _ rfl, k 18 _ rfl⟩
theorem spans_any (n : Int) (w : World) : Calls Tryz.prog 47 #[.int .i64 n] w fun e w' => e = .returned (.bool (decide (0 ≤ n) && decide (n ≤ 4000))) ∧ w = w' := by
 by_cases h0 : 0 ≤ n
 ·by_cases h1 : n ≤ 4000
  ·rw [decide_eq_true h0, decide_eq_true h1]
   go_enter Tryz.func47, Tryz.ntmps47
   go_wp2
   go_ret
   exact ⟨rfl, rfl⟩
  ·rw [decide_eq_true h0, decide_eq_false h1]
   go_enter Tryz.func47, Tryz.ntmps47
   go_wp2
   go_ret
   exact ⟨rfl, rfl⟩
 ·rw [decide_eq_false h0, Bool.false_and]
  go_enter Tryz.func47, Tryz.ntmps47
  go_wp2
  go_ret
  exact ⟨rfl, rfl⟩
set_option maxHeartbeats 8000000 in
set_option maxRecDepth 100000 in
theorem check_head (w : World) (s : St) (sv : Nat → Value) (vi vo : Value) (hL : LS w s sv vi vo) (hW : WS s) (h : Mo.chk s.kind s.sec ≠ 0 ∨ chkR s.rule ≠ 0 ∨ (s.rule.uk ≠ 0 ∧ s.rule.uk ≠ s.kind) ∨ (timed s.rule ∧ s.kind = 1)) :
  Calls Tryz.prog 26 #[setV s sv vi vo] w fun e w' => e = .returned (.int .i64 (chkS s)) ∧ Below w.heap.size w w' := by
 unfold chkS
 have FM := fun W => Ma.check_any s.kind s.sec hW.2.1 W
 have FR : ∀ W, Below w.heap.size w W → Calls Tryz.prog 33 #[ruleV s.rule sv] W fun e w' => e = .returned (.int .i64 (chkR s.rule)) ∧ Below W.heap.size W w' := fun W hB => rcheck_any W s.rule sv (hL.1.later hB) hW.1
 have FI : ∀ W, Below w.heap.size w W → Calls Tryz.prog 58 #[vi, .int .u8 s.kind] W fun e w' => e = .returned (.int .i64 (alike s.kind s.inn)) ∧ Below W.heap.size W w' := fun W hB => alike_any s.kind (hL.2.1.below hB) hW.2.2.1 (by have := hW.2.2.2.2.1; omega)
 have FO : ∀ W, Below w.heap.size w W → Calls Tryz.prog 58 #[vo, .int .u8 s.kind] W fun e w' => e = .returned (.int .i64 (alike s.kind s.out)) ∧ Below W.heap.size W w' := fun W hB => alike_any s.kind (hL.2.2.below hB) hW.2.2.2.1 (by have := hW.2.2.2.2.2; omega)
 have BX := fun W => @sbox w s sv vi vo 48 W
 obtain ⟨a4, g4, e4⟩ := ints_slice (hL.1.1 4 (by decide) (by decide) (by decide))
 obtain ⟨a5, g5, e5⟩ := ints_slice (hL.1.1 5 (by decide) (by decide) (by decide))
 obtain ⟨a6, g6, e6⟩ := ints_slice (hL.1.1 6 (by decide) (by decide) (by decide))
 obtain ⟨a17, g17, e17⟩ := hL.2.1.slice
 obtain ⟨a18, g18, e18⟩ := hL.2.2.slice
 change sv 4 = .slice a4 s.rule.sec.length g4 at e4
 change sv 5 = .slice a5 s.rule.min.length g5 at e5
 change sv 6 = .slice a6 s.rule.hour.length g6 at e6
 unfold setV
 unfold setC ruleV ruleC Ma.val at *
 rw [e4, e5, e6] at FR BX ⊢
 rw [e17] at FI BX ⊢
 rw [e18] at FO BX ⊢
 by_cases h1 : Mo.chk s.kind s.sec ≠ 0
 ·rw [if_pos h1]
  have q1 : (Mo.chk s.kind s.sec != 0) = true := by simp [h1]
  clear h h1
  replace FM := Lib.hid FM
  replace FR := Lib.hid FR
  replace FI := Lib.hid FI
  replace FO := Lib.hid FO
  replace BX := Lib.hid BX
  clear hL hW e4 e5 e6 e17 e18
  go_enter Tryz.func26, Tryz.ntmps26
  go_wp2_with (first
   | (go_at_call 57; (with_reducible refine (FM.out _).mono ?_); rintro e w1 ⟨rfl, hB1⟩; replace hB1 := Lib.hid hB1; obtain ⟨z0, c0, c1, c2, c3, c4, c5, c6, c7, c8, c9, c10, c11, c12, c13, c14, c15, c16, c17, c18⟩ := BX.out w1 hB1.out))
  go_ret
  exact ⟨rfl, Below.next_allocs' hB1.out⟩
 rw [if_neg h1]
 have h1' : Mo.chk s.kind s.sec = 0 := Decidable.byContradiction h1
 rw [h1'] at FM
 by_cases h2 : chkR s.rule ≠ 0
 ·rw [if_pos h2]
  have q1 : (chkR s.rule != 0) = true := by simp [h2]
  clear h h1 h1' h2
  replace FM := Lib.hid FM
  replace FR := Lib.hid FR
  replace FI := Lib.hid FI
  replace FO := Lib.hid FO
  replace BX := Lib.hid BX
  clear hL hW e4 e5 e6 e17 e18
  go_enter Tryz.func26, Tryz.ntmps26
  go_wp2_with (first
   | (go_at_call 57; (with_reducible refine (FM.out _).mono ?_); rintro e w1 ⟨rfl, hB1⟩; replace hB1 := Lib.hid hB1; obtain ⟨z0, c0, c1, c2, c3, c4, c5, c6, c7, c8, c9, c10, c11, c12, c13, c14, c15, c16, c17, c18⟩ := BX.out w1 hB1.out)
   | (go_at_call 33; (with_reducible refine (FR.out _ (Below.next_allocs' hB1.out)).mono ?_); rintro e w2 ⟨rfl, hB2⟩; replace hB2 := Lib.hid (Below.next hB1.out hB2); clear z0 c0 c1 c2 c3 c4 c5 c6 c7 c8 c9 c10 c11 c12 c13 c14 c15 c16 c17 c18; obtain ⟨z0, c0, c1, c2, c3, c4, c5, c6, c7, c8, c9, c10, c11, c12, c13, c14, c15, c16, c17, c18⟩ := BX.out w2 hB2.out))
  go_ret
  exact ⟨rfl, Below.next_allocs' hB2.out⟩
 rw [if_neg h2]
 have h2' : chkR s.rule = 0 := Decidable.byContradiction h2
 rw [h2'] at FR
 by_cases h3 : s.rule.uk ≠ 0 ∧ s.rule.uk ≠ s.kind
 ·rw [if_pos h3]
  have q1 : (s.rule.uk != 0) = true := by simp [h3.1]
  have q2 : (s.rule.uk != s.kind) = true := by simp [h3.2]
  clear h h1 h1' h2 h2' h3
  replace FM := Lib.hid FM
  replace FR := Lib.hid FR
  replace FI := Lib.hid FI
  replace FO := Lib.hid FO
  replace BX := Lib.hid BX
  clear hL hW e4 e5 e6 e17 e18
  go_enter Tryz.func26, Tryz.ntmps26
  go_wp2_with (first
   | (go_at_call 57; (with_reducible refine (FM.out _).mono ?_); rintro e w1 ⟨rfl, hB1⟩; replace hB1 := Lib.hid hB1; obtain ⟨z0, c0, c1, c2, c3, c4, c5, c6, c7, c8, c9, c10, c11, c12, c13, c14, c15, c16, c17, c18⟩ := BX.out w1 hB1.out)
   | (go_at_call 33; (with_reducible refine (FR.out _ (Below.next_allocs' hB1.out)).mono ?_); rintro e w2 ⟨rfl, hB2⟩; replace hB2 := Lib.hid (Below.next hB1.out hB2); clear z0 c0 c1 c2 c3 c4 c5 c6 c7 c8 c9 c10 c11 c12 c13 c14 c15 c16 c17 c18; obtain ⟨z0, c0, c1, c2, c3, c4, c5, c6, c7, c8, c9, c10, c11, c12, c13, c14, c15, c16, c17, c18⟩ := BX.out w2 hB2.out))
  go_ret
  exact ⟨rfl, Below.next_allocs' hB2.out⟩
 rw [if_neg h3]
 have h4 : timed s.rule ∧ s.kind = 1 := by
  rcases h with h | h | h | h
  ·exact absurd h h1
  ·exact absurd h h2
  ·exact absurd h h3
  ·exact h
 rw [if_pos h4]
 have hu : (s.rule.uk != 0) = false ∨ ((s.rule.uk != 0) = true ∧ (s.rule.uk != s.kind) = false) := by
  by_cases h : s.rule.uk = 0
  ·exact .inl (by simp [h])
  ·exact .inr ⟨by simp [h], by simp; exact Decidable.byContradiction fun hh => h3 ⟨h, hh⟩⟩
 have ht : s.rule.freq < 3 ∨ (3 ≤ s.rule.freq ∧ 0 < s.rule.hour.length) ∨ (3 ≤ s.rule.freq ∧ ¬ 0 < s.rule.hour.length ∧ 0 < s.rule.min.length) ∨ (3 ≤ s.rule.freq ∧ ¬ 0 < s.rule.hour.length ∧ ¬ 0 < s.rule.min.length ∧ 0 < s.rule.sec.length) := by
  have := h4.1
  unfold timed at this
  omega
 have hk : (s.kind == 1) = true := by simp [h4.2]
 clear h h1 h1' h2 h2' h3 h4
 replace FM := Lib.hid FM
 replace FR := Lib.hid FR
 replace FI := Lib.hid FI
 replace FO := Lib.hid FO
 replace BX := Lib.hid BX
 clear hL hW e4 e5 e6 e17 e18
 generalize s.rule.hour.length = n6 at *
 generalize s.rule.min.length = n5 at *
 generalize s.rule.sec.length = n4 at *
 rcases hu with hu | ⟨hu, hu2⟩
 all_goals
  rcases ht with ht | ⟨ht, ht1⟩ | ⟨ht, ht1, ht2⟩ | ⟨ht, ht1, ht2, ht3⟩
 all_goals
  as_aux_lemma =>
  go_enter Tryz.func26, Tryz.ntmps26
  go_wp2_with (first
   | (go_at_call 57; (with_reducible refine (FM.out _).mono ?_); rintro e w1 ⟨rfl, hB1⟩; replace hB1 := Lib.hid hB1; obtain ⟨z0, c0, c1, c2, c3, c4, c5, c6, c7, c8, c9, c10, c11, c12, c13, c14, c15, c16, c17, c18⟩ := BX.out w1 hB1.out)
   | (go_at_call 33; (with_reducible refine (FR.out _ (Below.next_allocs' hB1.out)).mono ?_); rintro e w2 ⟨rfl, hB2⟩; replace hB2 := Lib.hid (Below.next hB1.out hB2); clear z0 c0 c1 c2 c3 c4 c5 c6 c7 c8 c9 c10 c11 c12 c13 c14 c15 c16 c17 c18; obtain ⟨z0, c0, c1, c2, c3, c4, c5, c6, c7, c8, c9, c10, c11, c12, c13, c14, c15, c16, c17, c18⟩ := BX.out w2 hB2.out))
  go_ret
  exact ⟨rfl, Below.next_allocs' hB2.out⟩
end Go.Proofs.YtkbohijlhhpfbaaGreatDoor.Rs

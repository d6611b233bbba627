/- The walk through errandref26's Walk (printed by gen_rwalk.py). -/
import Derived.Test.YtkbohijlhhpfbaaGreatDoorVZk
import Derived.Test.YtkbohijlhhpfbaaGreatDoorVYy
import Derived.Test.YtkbohijlhhpfbaaGreatDoorVXs
import Derived.BigRegion
import Derived.RegionTactic
import Derived.BigQuiet
import Derived.Deep.DeepCutAuto
namespace Go.Proofs.YtkbohijlhhpfbaaGreatDoor.Rs
open Go.RowKit Ru Ut Cw Ra Xp
def outW (o : Option (Int × List Int)) : List Int × Int × Int := match o with
 | none => ([], 0, 13)
 | some (u, m) => (m, u, 0)
def Gives3 (w : World) (o : List Int × Int × Int) (e : Ending) (w' : World) : Prop := ∃ v, e = .returned (.tuple #[v, .int .i64 o.2.1, .int .i64 o.2.2]) ∧ OwnI w' w.heap.size v o.1 ∧ Below w.heap.size w w'
theorem gives3 {w W : World} {B : Nat} {v : Value} {o : Option (Int × List Int)} {u : Int} {m : List Int} (hO : OwnI W B v m) (h : o = some (u, m)) (hb : w.heap.size ≤ B) (hB : Below w.heap.size w W) : Gives3 w (outW o) (.returned (.tuple #[v, .int .i64 u, .int .i64 0])) W := by
 subst h; exact ⟨_, rfl, hO.base hb, hB⟩
theorem gives3_none {w W : World} {o : Option (Int × List Int)} (h : o = none) (hB : Below w.heap.size w W) : Gives3 w (outW o) (.returned (.tuple #[.slice none 0 0, .int .i64 0, .int .i64 13])) W := by
 subst h; exact ⟨_, rfl, OwnI.nil _ _, hB⟩
theorem OwnI.draw {W : World} {B : Nat} {v : Value} {l : List Int} {n : Nat} (h : OwnI W B v l) : OwnI (W.drewN n) B v l := h
theorem cell_first (w : World) (A : Array Value) (t : TypeId) (o : Obj) (i : Nat) (v : Value) (h : A[i]? = some v) : ((w.alloc (.cells A t)).alloc o).drew.cell? ⟨w.heap.size, i, none⟩ = some v := by
 show ((w.alloc (.cells A t)).alloc o).cell? ⟨w.heap.size, i, none⟩ = some v
 rw [World.cell?_alloc_lt _ _ _ (by simp)]
 exact (World.cell?_alloc_new w A t i).trans h
set_option maxHeartbeats 16000000 in
set_option maxRecDepth 100000 in
theorem rwalk_none (w : World) (s : St) (a : Nat → Option Addr) (c : Nat → Nat) (x y bud : Int) (once : Bool) (hL : LS w s (svQ s.rule a c) (.slice (a 13) s.inn.length (c 13)) (.slice (a 14) s.out.length (c 14))) (hW : WS s) (hc : chkS s = 0) (hbg : begin (pS s x y bud once) = none) :
  Calls Tryz.prog 54 #[.agg (setQ s a c), .int .i64 x, .int .i64 y, .int .i64 bud, .bool once] w (Gives3 w (outW (walk (pS s x y bud once)))) := by
 have f0 := hW.1.2.1.1
 have hF := fineS f0 hc x y bud once
 obtain ⟨k1, k2, c0, c1⟩ := head_ok hF.2.1
 change 1 ≤ s.rule.interval at k1
 change s.rule.interval ≤ 1000 at k2
 change 0 ≤ s.rule.count at c0
 change s.rule.count ≤ 1000 at c1
 have FI : ∀ t W, Calls Tryz.prog 77 #[.int .u8 s.rule.freq, .int .i64 s.rule.wkst, .int .i64 t] W fun e w' => e = .returned (.int .i64 (Pd.index s.rule.freq s.rule.wkst t)) ∧ W = w' := fun t W => rIndex_any _ _ t W f0
 have FL : ∀ W, Calls Tryz.prog 78 #[.int .u8 s.rule.freq, .int .i64 s.rule.wkst] W fun e w' => e = .returned (.int .i64 (lastP (pS s x y bud once))) ∧ W = w' := fun W => rLast_any _ _ W f0
 have FS : ∀ i W, Calls Tryz.prog 38 #[.int .u8 s.rule.freq, .int .i64 s.rule.wkst, .int .i64 i] W fun e w' => e = .returned (.tuple #[.int .i64 (fr s.rule i), .int .i64 (tt s.rule i)]) ∧ W = w' := fun i W => rStretch_any _ _ i W f0
 have FC : ∀ i W, Below w.heap.size w W → Calls Tryz.prog 13 #[.agg (ruleQ s a c), .int .i64 s.sec, .int .i64 i] W fun e w' => e = .returned (.int .i64 (costE s.rule s.sec i)) ∧ Below W.heap.size W w' := fun i W hB => rcost_any W s.rule (svQ s.rule a c) s.sec i (hL.1.later hB) hW.1
 have FO : ∀ i W, Below w.heap.size w W → Calls Tryz.prog 18 #[.agg (ruleQ s a c), .int .i64 s.sec, .int .i64 i] W (Gives W (ofE s.rule s.sec i)) := fun i W hB => rofE_any W s.rule (svQ s.rule a c) s.sec i (hL.1.later hB) hW.1
 have FH : ∀ t W, Below w.heap.size w W → Calls Tryz.prog 56 #[.slice (a 14) s.out.length (c 14), .int .i64 t] W fun e w' => e = .returned (.bool (decide (t ∈ secs s.out))) ∧ W = w' := fun t W hB => rhas_any t (hL.2.2.below hB) (by have := hW.2.2.2.2.2; omega)
 have hfin : finS s = if s.rule.uk ≠ 0 then s.rule.us else 315537897599 := rfl
 unfold setQ ruleQ at *
 clear hL hW hc
 replace FI := Lib.hid FI
 replace FL := Lib.hid FL
 replace FS := Lib.hid FS
 replace FC := Lib.hid FC
 replace FO := Lib.hid FO
 replace FH := Lib.hid FH
 have hc0 : ¬ 0 < s.rule.count := fun h => by unfold begin at hbg; rw [if_pos (show 0 < (pS s x y bud once).r.count from h)] at hbg; cases hbg
 have hq : (s.rule.count == 0) = true := by rw [beq_iff_eq]; omega
 have hm : 315537897599 < max x s.sec := by
  unfold begin at hbg
  rw [if_neg (show ¬ 0 < (pS s x y bud once).r.count from hc0)] at hbg
  by_cases h : 315537897599 < max x s.sec
  ·exact h
  ·rw [if_neg (show ¬ 315537897599 < max (pS s x y bud once).a (pS s x y bud once).start from h)] at hbg; cases hbg
 have hr := Lib.hid (walk_none hbg)
 clear hbg hc0 hfin FL FS FC FO FH hF
 go_enter Tryz.func54, Tryz.ntmps54
 go_wp2
 go_region
 go_wp2_with (first
  | (go_at_call 77; (with_reducible refine (FI.out _ _).mono ?_); rintro e w1 ⟨rfl, rfl⟩))
 go_ret3
 exact gives3 (OwnI.nil _ _) hr.out (Nat.le_refl _) (by (repeat' (first|assumption|exact Below.refl _ _|apply Below.next_alloc|apply Below.drew|(apply Below.next;rotate_left;assumption))))
set_option maxHeartbeats 16000000 in
set_option maxRecDepth 100000 in
theorem rwalk_some (w : World) (s : St) (a : Nat → Option Addr) (c : Nat → Nat) (x y bud : Int) (once : Bool) (hL : LS w s (svQ s.rule a c) (.slice (a 13) s.inn.length (c 13)) (.slice (a 14) s.out.length (c 14))) (hW : WS s) (hc : chkS s = 0) (hb0 : 0 ≤ bud) (hb1 : bud ≤ 4000) (i0 : Int) (hbg : begin (pS s x y bud once) = some i0) :
  Calls Tryz.prog 54 #[.agg (setQ s a c), .int .i64 x, .int .i64 y, .int .i64 bud, .bool once] w (Gives3 w (outW (walk (pS s x y bud once)))) := by
 have f0 := hW.1.2.1.1
 have hF := fineS f0 hc x y bud once
 obtain ⟨k1, k2, c0, c1⟩ := head_ok hF.2.1
 change 1 ≤ s.rule.interval at k1
 change s.rule.interval ≤ 1000 at k2
 change 0 ≤ s.rule.count at c0
 change s.rule.count ≤ 1000 at c1
 have FI : ∀ t W, Calls Tryz.prog 77 #[.int .u8 s.rule.freq, .int .i64 s.rule.wkst, .int .i64 t] W fun e w' => e = .returned (.int .i64 (Pd.index s.rule.freq s.rule.wkst t)) ∧ W = w' := fun t W => rIndex_any _ _ t W f0
 have FL : ∀ W, Calls Tryz.prog 78 #[.int .u8 s.rule.freq, .int .i64 s.rule.wkst] W fun e w' => e = .returned (.int .i64 (lastP (pS s x y bud once))) ∧ W = w' := fun W => rLast_any _ _ W f0
 have FS : ∀ i W, Calls Tryz.prog 38 #[.int .u8 s.rule.freq, .int .i64 s.rule.wkst, .int .i64 i] W fun e w' => e = .returned (.tuple #[.int .i64 (fr s.rule i), .int .i64 (tt s.rule i)]) ∧ W = w' := fun i W => rStretch_any _ _ i W f0
 have FC : ∀ i W, Below w.heap.size w W → Calls Tryz.prog 13 #[.agg (ruleQ s a c), .int .i64 s.sec, .int .i64 i] W fun e w' => e = .returned (.int .i64 (costE s.rule s.sec i)) ∧ Below W.heap.size W w' := fun i W hB => rcost_any W s.rule (svQ s.rule a c) s.sec i (hL.1.later hB) hW.1
 have FO : ∀ i W, Below w.heap.size w W → Calls Tryz.prog 18 #[.agg (ruleQ s a c), .int .i64 s.sec, .int .i64 i] W (Gives W (ofE s.rule s.sec i)) := fun i W hB => rofE_any W s.rule (svQ s.rule a c) s.sec i (hL.1.later hB) hW.1
 have FH : ∀ t W, Below w.heap.size w W → Calls Tryz.prog 56 #[.slice (a 14) s.out.length (c 14), .int .i64 t] W fun e w' => e = .returned (.bool (decide (t ∈ secs s.out))) ∧ W = w' := fun t W hB => rhas_any t (hL.2.2.below hB) (by have := hW.2.2.2.2.2; omega)
 have hfin : finS s = if s.rule.uk ≠ 0 then s.rule.us else 315537897599 := rfl
 unfold setQ ruleQ at *
 clear hL hW hc
 replace FI := Lib.hid FI
 replace FL := Lib.hid FL
 replace FS := Lib.hid FS
 replace FC := Lib.hid FC
 replace FO := Lib.hid FO
 replace FH := Lib.hid FH
 obtain ⟨hin0, hi00, hi01⟩ := begin_in hF hbg
 have hwk := Lib.hid (walk_some hbg)
 have hst : (0 < s.rule.count → Pd.index s.rule.freq s.rule.wkst s.sec = i0) ∧ (¬ 0 < s.rule.count → max x s.sec ≤ 315537897599 ∧ Pd.step (Pd.index s.rule.freq s.rule.wkst s.sec) s.rule.interval (Pd.index s.rule.freq s.rule.wkst (max x s.sec)) = i0) := by
  unfold begin at hbg
  by_cases h0 : 0 < s.rule.count
  ·rw [if_pos (show 0 < (pS s x y bud once).r.count from h0)] at hbg
   exact ⟨fun _ => Option.some.inj hbg, fun h => absurd h0 h⟩
  ·rw [if_neg (show ¬ 0 < (pS s x y bud once).r.count from h0)] at hbg
   by_cases h1 : 315537897599 < max x s.sec
   ·rw [if_pos (show 315537897599 < max (pS s x y bud once).a (pS s x y bud once).start from h1)] at hbg; cases hbg
   ·rw [if_neg (show ¬ 315537897599 < max (pS s x y bud once).a (pS s x y bud once).start from h1)] at hbg
    exact ⟨fun h => absurd h h0, fun _ => ⟨by omega, Option.some.inj hbg⟩⟩
 have FP : ∀ a k b W, Calls Tryz.prog 95 #[.int .i64 a, .int .i64 k, .int .i64 b] W fun e w' => e = .returned (.int .i64 (Pd.step a k b)) ∧ W = w' := fun a k b W => rStep_any a k b W
 replace FP := Lib.hid FP
 replace hst := Lib.hid hst
 replace hin0 := Lib.hid hin0
 obtain ⟨fin, hfn⟩ : ∃ f, finS s = f := ⟨_, rfl⟩
 have hfi : (s.rule.uk = 0 → 315537897599 = fin) ∧ (¬ s.rule.uk = 0 → s.rule.us = fin) := by
  rw [← hfn, hfin]
  exact ⟨fun h => by rw [if_neg (by simp [h])], fun h => by rw [if_pos h]⟩
 replace hfn := Lib.hid hfn
 clear hfin
 have hfin := Lib.hid hfi
 clear hfi
 obtain ⟨LA, hLA⟩ : ∃ f, lastP (pS s x y bud once) = f := ⟨_, rfl⟩
 replace FL := FL.out
 rw [hLA] at FL
 replace FL := Lib.hid FL
 replace hLA := Lib.hid hLA
 have hk1 := Lib.hid (show 1 ≤ (pS s x y bud once).r.interval from k1)
 have hF2 := Lib.hid hF
 clear hbg hF
 go_enter Tryz.func54, Tryz.ntmps54
 go_wp2
 go_region
 go_upto_if 37 with (first
  | (go_at_call 77; (with_reducible refine (FI.out _ _).mono ?_); rintro e w1 ⟨rfl, rfl⟩))
 go_cut [15] (fun cc wx => cc = .int .i64 i0 ∧ Hid (Blk wx (w.heap.size + 1) #[.int .u8 s.rule.freq, .int .i64 s.rule.interval, .int .i64 s.rule.count, .int .u8 s.rule.uk, .int .i64 s.rule.us, .slice (a 4) s.rule.sec.length (c 4), .slice (a 5) s.rule.min.length (c 5), .slice (a 6) s.rule.hour.length (c 6), .slice (a 7) s.rule.day.length (c 7), .slice (a 8) s.rule.mday.length (c 8), .slice (a 9) s.rule.yday.length (c 9), .slice (a 10) s.rule.weekno.length (c 10), .slice (a 11) s.rule.month.length (c 11), .slice (a 12) s.rule.setpos.length (c 12), .int .i64 s.rule.wkst]) ∧ Hid (wx.cell? ⟨w.heap.size, 18, none⟩ = some (.slice (a 14) s.out.length (c 14))) ∧ Hid (Below w.heap.size w wx))
 case first =>
  by_cases h0 : 0 < s.rule.count
  ·have hq : (s.rule.count == 0) = false := by rw [beq_eq_false_iff_ne]; omega
   have hi := Lib.hid (hst.out.1 h0)
   go_wp2
   go_meet
   exact ⟨by rw [hi.out], Lib.hid (blk_two _ _ _ _).draw, Lib.hid (cell_first _ _ _ _ 18 _ rfl), Lib.hid (by (repeat' (first|assumption|exact Below.refl _ _|apply Below.next_alloc|apply Below.drew|(apply Below.next;rotate_left;assumption))))⟩
  ·have hq : (s.rule.count == 0) = true := by rw [beq_iff_eq]; omega
   obtain ⟨hm, hi⟩ := hst.out.2 (by omega)
   replace hi := Lib.hid hi
   go_wp2
   have KR : Blk ((w.alloc (.cells #[.int .u8 s.kind, .int .i64 s.sec, .int .u8 s.rule.freq, .int .i64 s.rule.interval, .int .i64 s.rule.count, .int .u8 s.rule.uk, .int .i64 s.rule.us, .slice (a 4) s.rule.sec.length (c 4), .slice (a 5) s.rule.min.length (c 5), .slice (a 6) s.rule.hour.length (c 6), .slice (a 7) s.rule.day.length (c 7), .slice (a 8) s.rule.mday.length (c 8), .slice (a 9) s.rule.yday.length (c 9), .slice (a 10) s.rule.weekno.length (c 10), .slice (a 11) s.rule.month.length (c 11), .slice (a 12) s.rule.setpos.length (c 12), .int .i64 s.rule.wkst, .slice (a 13) s.inn.length (c 13), .slice (a 14) s.out.length (c 14)] 43)).alloc (.cells #[.int .u8 s.rule.freq, .int .i64 s.rule.interval, .int .i64 s.rule.count, .int .u8 s.rule.uk, .int .i64 s.rule.us, .slice (a 4) s.rule.sec.length (c 4), .slice (a 5) s.rule.min.length (c 5), .slice (a 6) s.rule.hour.length (c 6), .slice (a 7) s.rule.day.length (c 7), .slice (a 8) s.rule.mday.length (c 8), .slice (a 9) s.rule.yday.length (c 9), .slice (a 10) s.rule.weekno.length (c 10), .slice (a 11) s.rule.month.length (c 11), .slice (a 12) s.rule.setpos.length (c 12), .int .i64 s.rule.wkst] 27)).drew (w.heap.size + 1) #[.int .u8 s.rule.freq, .int .i64 s.rule.interval, .int .i64 s.rule.count, .int .u8 s.rule.uk, .int .i64 s.rule.us, .slice (a 4) s.rule.sec.length (c 4), .slice (a 5) s.rule.min.length (c 5), .slice (a 6) s.rule.hour.length (c 6), .slice (a 7) s.rule.day.length (c 7), .slice (a 8) s.rule.mday.length (c 8), .slice (a 9) s.rule.yday.length (c 9), .slice (a 10) s.rule.weekno.length (c 10), .slice (a 11) s.rule.month.length (c 11), .slice (a 12) s.rule.setpos.length (c 12), .int .i64 s.rule.wkst] := (blk_two _ _ _ _).draw
   have KV : ((w.alloc (.cells #[.int .u8 s.kind, .int .i64 s.sec, .int .u8 s.rule.freq, .int .i64 s.rule.interval, .int .i64 s.rule.count, .int .u8 s.rule.uk, .int .i64 s.rule.us, .slice (a 4) s.rule.sec.length (c 4), .slice (a 5) s.rule.min.length (c 5), .slice (a 6) s.rule.hour.length (c 6), .slice (a 7) s.rule.day.length (c 7), .slice (a 8) s.rule.mday.length (c 8), .slice (a 9) s.rule.yday.length (c 9), .slice (a 10) s.rule.weekno.length (c 10), .slice (a 11) s.rule.month.length (c 11), .slice (a 12) s.rule.setpos.length (c 12), .int .i64 s.rule.wkst, .slice (a 13) s.inn.length (c 13), .slice (a 14) s.out.length (c 14)] 43)).alloc (.cells #[.int .u8 s.rule.freq, .int .i64 s.rule.interval, .int .i64 s.rule.count, .int .u8 s.rule.uk, .int .i64 s.rule.us, .slice (a 4) s.rule.sec.length (c 4), .slice (a 5) s.rule.min.length (c 5), .slice (a 6) s.rule.hour.length (c 6), .slice (a 7) s.rule.day.length (c 7), .slice (a 8) s.rule.mday.length (c 8), .slice (a 9) s.rule.yday.length (c 9), .slice (a 10) s.rule.weekno.length (c 10), .slice (a 11) s.rule.month.length (c 11), .slice (a 12) s.rule.setpos.length (c 12), .int .i64 s.rule.wkst] 27)).drew.cell? ⟨w.heap.size, 18, none⟩ = some (.slice (a 14) s.out.length (c 14)) := cell_first _ _ _ _ 18 _ rfl
   have BR : Below w.heap.size w ((w.alloc (.cells #[.int .u8 s.kind, .int .i64 s.sec, .int .u8 s.rule.freq, .int .i64 s.rule.interval, .int .i64 s.rule.count, .int .u8 s.rule.uk, .int .i64 s.rule.us, .slice (a 4) s.rule.sec.length (c 4), .slice (a 5) s.rule.min.length (c 5), .slice (a 6) s.rule.hour.length (c 6), .slice (a 7) s.rule.day.length (c 7), .slice (a 8) s.rule.mday.length (c 8), .slice (a 9) s.rule.yday.length (c 9), .slice (a 10) s.rule.weekno.length (c 10), .slice (a 11) s.rule.month.length (c 11), .slice (a 12) s.rule.setpos.length (c 12), .int .i64 s.rule.wkst, .slice (a 13) s.inn.length (c 13), .slice (a 14) s.out.length (c 14)] 43)).alloc (.cells #[.int .u8 s.rule.freq, .int .i64 s.rule.interval, .int .i64 s.rule.count, .int .u8 s.rule.uk, .int .i64 s.rule.us, .slice (a 4) s.rule.sec.length (c 4), .slice (a 5) s.rule.min.length (c 5), .slice (a 6) s.rule.hour.length (c 6), .slice (a 7) s.rule.day.length (c 7), .slice (a 8) s.rule.mday.length (c 8), .slice (a 9) s.rule.yday.length (c 9), .slice (a 10) s.rule.weekno.length (c 10), .slice (a 11) s.rule.month.length (c 11), .slice (a 12) s.rule.setpos.length (c 12), .int .i64 s.rule.wkst] 27)).drew := by (repeat' (first|assumption|exact Below.refl _ _|apply Below.next_alloc|apply Below.drew|(apply Below.next;rotate_left;assumption)))
   obtain ⟨r0, r1, r2, r3, r4, r5, r6, r7, r8, r9, r10, r11, r12, r13, r14⟩ := KR.fifteen
   have z0 := KR.1
   generalize ((w.alloc (.cells #[.int .u8 s.kind, .int .i64 s.sec, .int .u8 s.rule.freq, .int .i64 s.rule.interval, .int .i64 s.rule.count, .int .u8 s.rule.uk, .int .i64 s.rule.us, .slice (a 4) s.rule.sec.length (c 4), .slice (a 5) s.rule.min.length (c 5), .slice (a 6) s.rule.hour.length (c 6), .slice (a 7) s.rule.day.length (c 7), .slice (a 8) s.rule.mday.length (c 8), .slice (a 9) s.rule.yday.length (c 9), .slice (a 10) s.rule.weekno.length (c 10), .slice (a 11) s.rule.month.length (c 11), .slice (a 12) s.rule.setpos.length (c 12), .int .i64 s.rule.wkst, .slice (a 13) s.inn.length (c 13), .slice (a 14) s.out.length (c 14)] 43)).alloc (.cells #[.int .u8 s.rule.freq, .int .i64 s.rule.interval, .int .i64 s.rule.count, .int .u8 s.rule.uk, .int .i64 s.rule.us, .slice (a 4) s.rule.sec.length (c 4), .slice (a 5) s.rule.min.length (c 5), .slice (a 6) s.rule.hour.length (c 6), .slice (a 7) s.rule.day.length (c 7), .slice (a 8) s.rule.mday.length (c 8), .slice (a 9) s.rule.yday.length (c 9), .slice (a 10) s.rule.weekno.length (c 10), .slice (a 11) s.rule.month.length (c 11), .slice (a 12) s.rule.setpos.length (c 12), .int .i64 s.rule.wkst] 27)).drew = W1 at *
   replace KR := Lib.hid KR
   replace BR := Lib.hid BR
   replace KV := Lib.hid KV
   go_quiet (first | (go_at_call 77; with_reducible exact Base.qsame (FI.out _ _)) | (go_at_call 95; with_reducible exact Base.qsame (FP.out _ _ _ _)))
   go_wp2
   go_meet
   exact ⟨by rw [hi.out], KR, KV, Lib.hid (Base.below_drewN BR.out _)⟩
 case rest =>
 obtain ⟨rfl, hK, hvo, hB⟩ := hcut
 have hz := hK.out.1
 obtain ⟨r0, r1, r2, r3, r4, r5, r6, r7, r8, r9, r10, r11, r12, r13, r14⟩ := hK.out.fifteen
 as_aux_lemma =>
 go_upto_if 57 with fail
 go_cut [16] (fun cc wx => cc = .int .i64 fin ∧ wx = wc)
 case first =>
  by_cases hu : s.rule.uk = 0
  ·have hq : (s.rule.uk != 0) = false := by simp [hu]
   have hf := Lib.hid (hfin.out.1 hu)
   clear hu
   as_aux_lemma =>
   go_wp2
   go_meet
   exact ⟨by rw [hf.out], rfl⟩
  ·have hq : (s.rule.uk != 0) = true := by simp [hu]
   have hf := Lib.hid (hfin.out.2 hu)
   clear hu
   as_aux_lemma =>
   go_wp2
   go_meet
   exact ⟨by rw [hf.out], rfl⟩
 case rest =>
 rename_i wd
 obtain ⟨rfl, hwd⟩ := hcut
 subst hwd
 clear r0 r1 r2 r3 r4 r5 r6 r7 r8 r9 r10 r11 r12 r13 r14
 as_aux_lemma =>
 go_wp2
 go_loopw [15, 17, 18, 19] (fun vi vu vs vn wr => ∃ (i used n : Int) (m : List Int), vi = .int .i64 i ∧ vs = .int .i64 used ∧ vn = .int .i64 n ∧ 0 ≤ i ∧ i ≤ 315537899000 ∧ 0 ≤ used ∧ used ≤ bud ∧ 0 ≤ n ∧ n ≤ used ∧ Hid (lastP (pS s x y bud once) < i ∨ Inp (pS s x y bud once) i) ∧ Hid ((m.length : Int) ≤ n) ∧ Hid (OwnI wr w.heap.size vu m) ∧ Hid (Asd none wc (.slice none 0 0) wr vu) ∧ Hid (runF (pS s x y bud once) i (s.rule.count - n) used m = walk (pS s x y bud once))) (fun vi _ _ _ _ => (LA + 1 - intOf vi).toNat)
 case atStart => exact ⟨i0, 0, 0, [], rfl, rfl, rfl, hi00, hi01, by omega, hb0, by omega, by omega, hin0, Lib.hid (by simp), Lib.hid (OwnI.nil _ _), Lib.hid (Asd.refl none wc _), Lib.hid (by rw [Int.sub_zero]; exact hwk.out.symm)⟩
 case round =>
  as_aux_lemma =>
  obtain ⟨i, used, n, m, rfl, rfl, rfl, hi0, hi1, hu0, hu1, hn0, hn1, hin, hml, hO, hA, hrun⟩ := hrel
  obtain ⟨wo, rfl⟩ : ∃ x, x = wr := ⟨_, rfl⟩
  obtain ⟨au, cu, rfl⟩ := hO.out.slice
  have hBc := Lib.hid (hA.out.belowNil (B := wc.heap.size) (fun k e => by cases e) (Nat.le_refl _))
  have Bw := Lib.hid (Below.next hB.out hBc.out)
  have KO := Lib.hid (fun W2 (h : Below wo.heap.size wo W2) => (hK.out.later (Below.next hBc.out h) hz).fifteen)
  have VO := Lib.hid (fun W2 (h : Below wc.heap.size wc W2) => ((h.cell (p := ⟨w.heap.size, 18, none⟩) (Nat.lt_of_succ_lt hz)).trans hvo.out))
  obtain ⟨r0, r1, r2, r3, r4, r5, r6, r7, r8, r9, r10, r11, r12, r13, r14⟩ := KO.out wo (Below.refl _ _)
  have z1 : w.heap.size + 1 < wo.heap.size := Nat.lt_of_lt_of_le hz hBc.out.size
  by_cases hl : LA < i
  ·have hr := Lib.hid (show walk (pS s x y bud once) = some (used, m) by rw [← hrun.out]; exact runF_over (by rw [hLA.out]; exact hl))
   as_aux_lemma =>
   go_wp2_with (first
    | (go_at_call 78; (with_reducible refine (FL.out _).mono ?_); rintro e w2 ⟨rfl, rfl⟩))
   go_ret3
   exact gives3 hO.out hr.out (Nat.le_refl _) Bw.out
  ·have FSi := FS.out i
   have hbo := Lib.hid (fun h => runF_out (p := (pS s x y bud once)) (left := s.rule.count - n) (used := used) (m := m) (by rw [hLA.out]; exact hl) h)
   have hsp := Lib.hid (fun h1 h2 => runF_spent (p := (pS s x y bud once)) (left := s.rule.count - n) (used := used) (m := m) (by rw [hLA.out]; exact hl) h1 h2)
   have hso := Lib.hid (fun h1 h2 q h3 => @runF_stop (pS s x y bud once) i (s.rule.count - n) used m (by rw [hLA.out]; exact hl) h1 h2 q h3)
   have hne := Lib.hid (fun h1 h2 q h3 => @runF_next (pS s x y bud once) hk1.out i (s.rule.count - n) used m (by rw [hLA.out]; exact hl) h1 h2 q h3)
   have hIn := hin.out.resolve_left (by rw [hLA.out]; exact hl)
   have hi2 := (idx_small hF2.out hIn).2
   have hin2 := Lib.hid (next_or hF2.out hIn)
   change Hid ((pS s x y bud once).b ≤ fr s.rule i ∨ (pS s x y bud once).fin < fr s.rule i → _) at hbo
   change Hid (¬ (y ≤ fr s.rule i ∨ finS s < fr s.rule i) → bud < used + costE s.rule s.sec i → _) at hsp
   change Hid (¬ (y ≤ fr s.rule i ∨ finS s < fr s.rule i) → ¬ bud < used + costE s.rule s.sec i → ∀ q, inner (pS s x y bud once) (ofE s.rule s.sec i) (s.rule.count - n) m = (true, q) → runF (pS s x y bud once) i (s.rule.count - n) used m = some (used + costE s.rule s.sec i, q.2)) at hso
   change Hid (¬ (y ≤ fr s.rule i ∨ finS s < fr s.rule i) → ¬ bud < used + costE s.rule s.sec i → ∀ q, inner (pS s x y bud once) (ofE s.rule s.sec i) (s.rule.count - n) m = (false, q) → runF (pS s x y bud once) i (s.rule.count - n) used m = runF (pS s x y bud once) (i + s.rule.interval) q.1 (used + costE s.rule s.sec i) q.2) at hne
   rw [hfn.out] at hsp hso hne
   replace hbo := Lib.hid (show y ≤ fr s.rule i ∨ fin < fr s.rule i → walk (pS s x y bud once) = some (used, m) from fun h => hrun.out.symm.trans (hbo.out (by rw [← hfn.out] at h; exact h)))
   generalize fr s.rule i = F at *
   generalize tt s.rule i = F2 at *
   replace FSi := Lib.hid FSi
   clear hin
   by_cases hb : y ≤ F
   ·have hr := Lib.hid (hbo.out (.inl hb))
    clear hsp hso hne hbo
    as_aux_lemma =>
    go_wp2_with (first
     | (go_at_call 78; (with_reducible refine (FL.out _).mono ?_); rintro e w2 ⟨rfl, rfl⟩)
     | (go_at_call 38; (with_reducible refine (FSi.out _).mono ?_); rintro e w3 ⟨rfl, rfl⟩))
    go_ret3
    exact gives3 hO.out hr.out (Nat.le_refl _) Bw.out
   ·by_cases hb2 : fin < F
    ·have hr := Lib.hid (hbo.out (.inr hb2))
     clear hsp hso hne hbo
     as_aux_lemma =>
     go_wp2_with (first
      | (go_at_call 78; (with_reducible refine (FL.out _).mono ?_); rintro e w2 ⟨rfl, rfl⟩)
      | (go_at_call 38; (with_reducible refine (FSi.out _).mono ?_); rintro e w3 ⟨rfl, rfl⟩))
     go_ret3
     exact gives3 hO.out hr.out (Nat.le_refl _) Bw.out
    ·have hnb : ¬ (y ≤ F ∨ fin < F) := fun h => h.elim hb hb2
     replace hsp := Lib.hid (fun h => hrun.out.symm.trans (hsp.out hnb h))
     replace hso := Lib.hid (fun h q h3 => hrun.out.symm.trans (hso.out hnb h q h3))
     replace hne := Lib.hid (fun h q h3 => (hne.out hnb h q h3).symm.trans hrun.out)
     have FCi := FC.out i
     have FOi := FO.out i
     have hoc := ofE_cost s.rule s.sec i
     have hc1 := cost_bd s.rule s.sec i
     have hc0 := costE_nn s.rule s.sec i
     clear hbo hnb hrun
     generalize costE s.rule s.sec i = cst at *
     generalize ofE s.rule s.sec i = ls at *
     replace FCi := Lib.hid FCi
     replace FOi := Lib.hid FOi
     by_cases hs : bud < used + cst
     ·have hr := Lib.hid (hsp.out hs)
      clear hsp hso hne
      as_aux_lemma =>
      go_wp2_with (first
       | (go_at_call 78; (with_reducible refine (FL.out _).mono ?_); rintro e w2 ⟨rfl, rfl⟩)
       | (go_at_call 38; (with_reducible refine (FSi.out _).mono ?_); rintro e w3 ⟨rfl, rfl⟩)
       | (go_at_call 13; (with_reducible refine (FCi.out _ Bw.out).mono ?_); rintro e w4 ⟨rfl, hB4⟩; clear r0 r1 r2 r3 r4 r5 r6 r7 r8 r9 r10 r11 r12 r13 r14; obtain ⟨r0, r1, r2, r3, r4, r5, r6, r7, r8, r9, r10, r11, r12, r13, r14⟩ := KO.out w4 hB4; have z4 := Nat.lt_of_lt_of_le z1 hB4.size))
      go_ret3
      exact gives3_none hr.out (Below.next Bw.out hB4)
     ·replace hso := Lib.hid (hso.out hs)
      replace hne := Lib.hid (hne.out hs)
      clear hsp
      have KC := Lib.hid (fun W2 (h : Below wc.heap.size wc W2) => (hK.out.later h hz).fifteen)
      as_aux_lemma =>
      go_wp2_with (first
       | (go_at_call 78; (with_reducible refine (FL.out _).mono ?_); rintro e w2 ⟨rfl, rfl⟩)
       | (go_at_call 38; (with_reducible refine (FSi.out _).mono ?_); rintro e w3 ⟨rfl, rfl⟩)
       | (go_at_call 13; (with_reducible refine (FCi.out _ Bw.out).mono ?_); rintro e w4 ⟨rfl, hB4⟩; clear r0 r1 r2 r3 r4 r5 r6 r7 r8 r9 r10 r11 r12 r13 r14; obtain ⟨r0, r1, r2, r3, r4, r5, r6, r7, r8, r9, r10, r11, r12, r13, r14⟩ := KO.out w4 hB4; have z4 := Nat.lt_of_lt_of_le z1 hB4.size)
       | (go_at_call 18; (with_reducible refine (FOi.out _ (Below.next Bw.out hB4)).mono ?_); rintro e w5 ⟨v5, rfl, hO5, hB5⟩; obtain ⟨a5, c5, hv5⟩ := hO5.slice; subst hv5; clear r0 r1 r2 r3 r4 r5 r6 r7 r8 r9 r10 r11 r12 r13 r14; obtain ⟨r0, r1, r2, r3, r4, r5, r6, r7, r8, r9, r10, r11, r12, r13, r14⟩ := KO.out w5 (Below.next hB4 hB5); have z5 := Nat.lt_of_lt_of_le z4 hB5.size))
      have A5 := Lib.hid ((hA.out.quiet hB4).quiet hB5)
      have O5 := Lib.hid ((hO.out.below hB4).below hB5)
      obtain ⟨g, hg⟩ : ∃ g, ∀ k, k < ls.length → a5 = some ⟨g, 0, none⟩ := by
       by_cases h0 : 0 < ls.length
       ·obtain ⟨g, e, -⟩ := own_at hO5 (Below.refl _ _) h0
        exact ⟨g, fun _ _ => e⟩
       ·exact ⟨0, fun k hk => absurd hk (by omega)⟩
      have HL := Lib.hid (fun wr u (h : Asd none w5 (.slice au m.length cu) wr u) k (hk : k < ls.length) => h.at hO5 (fun k e => by cases e) (fun k e => (ownI_block (hO.out.below hB4) k e).2) hk)
      replace hg := Lib.hid hg
      clear hO5 hB4 hB5 KO r0 r1 r2 r3 r4 r5 r6 r7 r8 r9 r10 r11 r12 r13 r14 z1 z4 z5
      go_loopw [17, 19, 23] (fun vu2 vn2 vk wr => ∃ (k : Nat) (n2 : Int) (m2 : List Int), vk = .int .i64 k ∧ k ≤ ls.length ∧ vn2 = .int .i64 n2 ∧ n ≤ n2 ∧ n2 ≤ n + k ∧ Hid ((m2.length : Int) ≤ n2) ∧ Hid (OwnI wr w.heap.size vu2 m2) ∧ Hid (Asd none w5 (.slice au m.length cu) wr vu2) ∧ Hid (inner (pS s x y bud once) (ls.drop k) (s.rule.count - n2) m2 = inner (pS s x y bud once) ls (s.rule.count - n) m)) (fun _ _ vk _ => ls.length - (intOf vk).toNat)
      case atStart => exact ⟨0, n, m, rfl, Nat.zero_le _, rfl, by omega, by omega, hml, O5, Lib.hid (Asd.refl _ _ _), Lib.hid (by rw [List.drop_zero])⟩
      case round =>
       as_aux_lemma =>
       obtain ⟨k, n2, m2, rfl, hk, rfl, hn2, hn3, hml2, hO2, hA2, hstp⟩ := hrel
       obtain ⟨a2, c2, rfl⟩ := hO2.out.slice
       have A2 := Lib.hid (A5.out.trans hA2.out)
       have BcI := Lib.hid (A2.out.belowNil (B := wc.heap.size) (fun k e => by cases e) (Nat.le_refl _))
       have BwI := Lib.hid (Below.next hB.out BcI.out)
       obtain ⟨-, q1, q2, -⟩ := KC.out wr BcI.out
       have z6 : w.heap.size + 1 < wr.heap.size := Nat.lt_of_lt_of_le hz BcI.out.size
       by_cases hkl : k < ls.length
       ·have ha5 := hg.out k hkl
        have AT := fun wr u (h : Asd none w5 (.slice au m.length cu) wr u) => HL.out wr u h k hkl
        rw [ha5] at AT
        replace AT := Lib.hid (fun wr u h => at_same (AT wr u h))
        subst ha5
        obtain ⟨zl, cl, capl⟩ := AT.out wr _ hA2.out
        have hdrop := List.drop_eq_getElem_cons hkl
        generalize ls[k] = t at *
        have hst := hstp.out
        rw [hdrop] at hst
        clear hdrop hstp
        by_cases c1 : t < s.sec
        ·have hnx := Lib.hid (in_ahead (p := (pS s x y bud once)) hst c1)
         clear hst
         as_aux_lemma =>
         go_wp2
         go_roundw
         case rel => exact ⟨k + 1, n2, m2, by go_num, by omega, rfl, hn2, by omega, hml2, hO2, hA2, hnx⟩
         case measure => simp [intOf]; omega
        ·by_cases c2' : fin < t
         ·have hr := Lib.hid (hso.out _ (in_over (p := (pS s x y bud once)) hst c1 (by show finS s < t; rw [hfn.out]; exact c2')))
          clear hst
          as_aux_lemma =>
          go_wp2
          go_ret3
          exact gives3 hO2.out hr.out (Nat.le_refl _) BwI.out
         ·have c3 : ¬ (pS s x y bud once).fin < t := by show ¬ finS s < t; rw [hfn.out]; exact c2'
          have hEnd := fun h3 => hso.out _ (in_end (p := (pS s x y bud once)) hst c1 c3 h3)
          have hOn := fun h3 => in_on (p := (pS s x y bud once)) hst c1 c3 h3
          replace c3 := Lib.hid c3
          clear hst
          cases hh : hit (pS s x y bud once) t
          ·have hno : t < x ∨ (¬ t < x ∧ y ≤ t) := by
            unfold hit pS at hh
            simp only [Bool.and_eq_false_iff, decide_eq_false_iff_not] at hh
            omega
           rw [add_no hh] at hEnd hOn
           have he := ends_nohit hh
           replace hEnd := Lib.hid hEnd
           replace hOn := Lib.hid hOn
           replace he := Lib.hid he
           clear hh
           by_cases hq : s.rule.count - n2 - 1 = 0
           ·have hr := Lib.hid (hEnd.out (or_right hq))
            have hq2 : ((n2 + 1) == s.rule.count) = true := by rw [beq_iff_eq]; omega
            clear hEnd hOn hq
            rcases hno with hno | ⟨hno, hno2⟩
            ·as_aux_lemma =>
             go_wp2
             go_ret3
             exact gives3 hO2.out hr.out (Nat.le_refl _) BwI.out
            ·as_aux_lemma =>
             go_wp2
             go_ret3
             exact gives3 hO2.out hr.out (Nat.le_refl _) BwI.out
           ·have hnx := Lib.hid (hOn.out (or_no he.out hq))
            have hq2 : ((n2 + 1) == s.rule.count) = false := by rw [beq_eq_false_iff_ne]; omega
            have hml3 := Lib.hid (show (m2.length : Int) ≤ n2 + 1 by have := hml2.out; omega)
            clear hEnd hOn hq
            rcases hno with hno | ⟨hno, hno2⟩
            ·as_aux_lemma =>
             go_wp2
             go_roundw
             case rel => exact ⟨k + 1, n2 + 1, m2, by go_num, by omega, rfl, by omega, by omega, hml3, hO2, hA2, hnx⟩
             case measure => simp [intOf]; omega
            ·as_aux_lemma =>
             go_wp2
             go_roundw
             case rel => exact ⟨k + 1, n2 + 1, m2, by go_num, by omega, rfl, by omega, by omega, hml3, hO2, hA2, hnx⟩
             case measure => simp [intOf]; omega
          ·have hyes : x ≤ t ∧ t < y := by
            unfold hit pS at hh
            simpa using hh
           obtain ⟨hy1, hy2⟩ := hyes
           rw [add_hit hh] at hEnd hOn
           have hln := Lib.hid (show m2.length ≤ 1000000 by have := hml2.out; omega)
           have hml3 := Lib.hid (show ((m2 ++ [t]).length : Int) ≤ n2 + 1 by have := hml2.out; rw [List.length_append, List.length_singleton]; omega)
           have hzz : w.heap.size ≤ wr.heap.size := by omega
           have hd : ends (pS s x y bud once) t = (once && !decide (t ∈ secs s.out)) := by unfold ends; rw [hh]; rfl
           have FHt := FH.out t
           generalize decide (t ∈ secs s.out) = d at *
           replace hEnd := Lib.hid hEnd
           replace hOn := Lib.hid hOn
           replace FHt := Lib.hid FHt
           clear hh
           by_cases hq : s.rule.count - n2 - 1 = 0
           ·have hr := Lib.hid (hEnd.out (or_right hq))
            have hq2 : ((n2 + 1) == s.rule.count) = true := by rw [beq_iff_eq]; omega
            clear hEnd hOn hq hd c3
            cases once
            ·as_aux_lemma =>
             go_wp2_with (first
              | (at_builtin; refine pushA rfl _ _ rfl w.heap.size (.slice a2 m2.length c2) m2 rfl hO2.out rfl hln.out hzz ?_; intro g6 cap6 w6 hO6 hA6; have A6 := Lib.hid (hA2.out.trans (hA6 none)); have A6c := Lib.hid (A5.out.trans A6.out); have B6c := Lib.hid (A6c.out.belowNil (B := wc.heap.size) (fun k e => by cases e) (Nat.le_refl _)); have B6 := Lib.hid (Below.next hB.out B6c.out); obtain ⟨zl6, cl6, -⟩ := AT.out w6 _ A6.out; obtain ⟨-, p1, p2, -⟩ := KC.out w6 B6c.out; have v6 := VO.out w6 B6c.out; have z7 := Nat.lt_of_lt_of_le hz B6c.out.size; have z8 := Nat.lt_of_succ_lt z7; replace hO6 := Lib.hid hO6; clear hA6))
             as_aux_lemma =>
             go_quiet (fail)
             go_wp2
             go_ret3
             exact gives3 (OwnI.draw hO6.out) hr.out (Nat.le_refl _) (Base.below_drewN B6.out _)
            ·as_aux_lemma =>
             go_wp2_with (first
              | (at_builtin; refine pushA rfl _ _ rfl w.heap.size (.slice a2 m2.length c2) m2 rfl hO2.out rfl hln.out hzz ?_; intro g6 cap6 w6 hO6 hA6; have A6 := Lib.hid (hA2.out.trans (hA6 none)); have A6c := Lib.hid (A5.out.trans A6.out); have B6c := Lib.hid (A6c.out.belowNil (B := wc.heap.size) (fun k e => by cases e) (Nat.le_refl _)); have B6 := Lib.hid (Below.next hB.out B6c.out); obtain ⟨zl6, cl6, -⟩ := AT.out w6 _ A6.out; obtain ⟨-, p1, p2, -⟩ := KC.out w6 B6c.out; have v6 := VO.out w6 B6c.out; have z7 := Nat.lt_of_lt_of_le hz B6c.out.size; have z8 := Nat.lt_of_succ_lt z7; replace hO6 := Lib.hid hO6; clear hA6))
             have FHq := Lib.hid (fun n => FHt.out (w6.drewN n) (Base.below_drewN B6.out n))
             as_aux_lemma =>
             go_quiet ((go_at_call 56; with_reducible exact Base.qsame (FHq.out _)))
             cases d
             ·as_aux_lemma =>
              go_wp2
              go_ret3
              exact gives3 (OwnI.draw hO6.out) hr.out (Nat.le_refl _) (Base.below_drewN B6.out _)
             ·as_aux_lemma =>
              go_wp2
              go_ret3
              exact gives3 (OwnI.draw hO6.out) hr.out (Nat.le_refl _) (Base.below_drewN B6.out _)
           ·have hq2 : ((n2 + 1) == s.rule.count) = false := by rw [beq_eq_false_iff_ne]; omega
            replace hq := Lib.hid hq
            cases once
            ·have hnx := Lib.hid (hOn.out (or_no (hd.trans rfl) hq.out))
             clear hEnd hOn hq hd c3
             as_aux_lemma =>
             go_wp2_with (first
              | (at_builtin; refine pushA rfl _ _ rfl w.heap.size (.slice a2 m2.length c2) m2 rfl hO2.out rfl hln.out hzz ?_; intro g6 cap6 w6 hO6 hA6; have A6 := Lib.hid (hA2.out.trans (hA6 none)); have A6c := Lib.hid (A5.out.trans A6.out); have B6c := Lib.hid (A6c.out.belowNil (B := wc.heap.size) (fun k e => by cases e) (Nat.le_refl _)); have B6 := Lib.hid (Below.next hB.out B6c.out); obtain ⟨zl6, cl6, -⟩ := AT.out w6 _ A6.out; obtain ⟨-, p1, p2, -⟩ := KC.out w6 B6c.out; have v6 := VO.out w6 B6c.out; have z7 := Nat.lt_of_lt_of_le hz B6c.out.size; have z8 := Nat.lt_of_succ_lt z7; replace hO6 := Lib.hid hO6; clear hA6))
             go_quiet (fail)
             go_wp2
             go_roundw
             case rel => exact ⟨k + 1, n2 + 1, m2 ++ [t], by go_num, by omega, rfl, by omega, by omega, hml3, Lib.hid (OwnI.draw hO6.out), Lib.hid (A6.out.quiet (Base.below_drewN (Below.refl _ _) _)), hnx⟩
             case measure => simp [intOf]; omega
            ·cases d
             ·have hr := Lib.hid (hEnd.out (or_left (hd.trans rfl)))
              clear hEnd hOn hq hd c3
              as_aux_lemma =>
              go_wp2_with (first
               | (at_builtin; refine pushA rfl _ _ rfl w.heap.size (.slice a2 m2.length c2) m2 rfl hO2.out rfl hln.out hzz ?_; intro g6 cap6 w6 hO6 hA6; have A6 := Lib.hid (hA2.out.trans (hA6 none)); have A6c := Lib.hid (A5.out.trans A6.out); have B6c := Lib.hid (A6c.out.belowNil (B := wc.heap.size) (fun k e => by cases e) (Nat.le_refl _)); have B6 := Lib.hid (Below.next hB.out B6c.out); obtain ⟨zl6, cl6, -⟩ := AT.out w6 _ A6.out; obtain ⟨-, p1, p2, -⟩ := KC.out w6 B6c.out; have v6 := VO.out w6 B6c.out; have z7 := Nat.lt_of_lt_of_le hz B6c.out.size; have z8 := Nat.lt_of_succ_lt z7; replace hO6 := Lib.hid hO6; clear hA6))
              have FHq := Lib.hid (fun n => FHt.out (w6.drewN n) (Base.below_drewN B6.out n))
              as_aux_lemma =>
              go_quiet ((go_at_call 56; with_reducible exact Base.qsame (FHq.out _)))
              go_wp2
              go_ret3
              exact gives3 (OwnI.draw hO6.out) hr.out (Nat.le_refl _) (Base.below_drewN B6.out _)
             ·have hnx := Lib.hid (hOn.out (or_no (hd.trans rfl) hq.out))
              clear hEnd hOn hq hd c3
              as_aux_lemma =>
              go_wp2_with (first
               | (at_builtin; refine pushA rfl _ _ rfl w.heap.size (.slice a2 m2.length c2) m2 rfl hO2.out rfl hln.out hzz ?_; intro g6 cap6 w6 hO6 hA6; have A6 := Lib.hid (hA2.out.trans (hA6 none)); have A6c := Lib.hid (A5.out.trans A6.out); have B6c := Lib.hid (A6c.out.belowNil (B := wc.heap.size) (fun k e => by cases e) (Nat.le_refl _)); have B6 := Lib.hid (Below.next hB.out B6c.out); obtain ⟨zl6, cl6, -⟩ := AT.out w6 _ A6.out; obtain ⟨-, p1, p2, -⟩ := KC.out w6 B6c.out; have v6 := VO.out w6 B6c.out; have z7 := Nat.lt_of_lt_of_le hz B6c.out.size; have z8 := Nat.lt_of_succ_lt z7; replace hO6 := Lib.hid hO6; clear hA6))
              have FHq := Lib.hid (fun n => FHt.out (w6.drewN n) (Base.below_drewN B6.out n))
              as_aux_lemma =>
              go_quiet ((go_at_call 56; with_reducible exact Base.qsame (FHq.out _)))
              go_wp2
              go_roundw
              case rel => exact ⟨k + 1, n2 + 1, m2 ++ [t], by go_num, by omega, rfl, by omega, by omega, hml3, Lib.hid (OwnI.draw hO6.out), Lib.hid (A6.out.quiet (Base.below_drewN (Below.refl _ _) _)), hnx⟩
              case measure => simp [intOf]; omega
       ·have hfl : inner (pS s x y bud once) ls (s.rule.count - n) m = (false, s.rule.count - n2, m2) := by
         rw [← hstp.out, List.drop_of_length_le (by omega), inner_nil]
        have hnx := Lib.hid (hne.out _ hfl)
        have hml3 := hml2
        clear hfl hso hne
        as_aux_lemma =>
        go_wp2
        go_roundw
        case rel => exact ⟨i + s.rule.interval, used + cst, n2, m2, by go_num, rfl, rfl, by omega, by omega, by omega, by omega, by omega, by omega, hin2, hml2, hO2, A2, hnx⟩
        case measure => simp [intOf]; omega
end Go.Proofs.YtkbohijlhhpfbaaGreatDoor.Rs

import Derived.Test.YtkbohijlhhpfbaaGreatDoorVYy
import Derived.Laws.Tables
/- The walk through rset's start (printed by gen_walk.py). -/
namespace Go.Proofs.YtkbohijlhhpfbaaGreatDoor.Rs
open Go.RowKit Ru Ut Cw Ra Xp
theorem wpList_build2 {ops : Array Oper} {rest : List Oper} {o : Oper} {a : Act} {w : World} {Q : Exit → Act → World → Prop} (hg : o.guard = none) (t : TypeId) (parts : Array (Nat × Operand)) (ho : o.op = .build t parts)
  (qs : List (Nat × Value)) (hq : (parts.map fun (i, x) => (i, a.eval x)).toList = qs) (cells : Array Value) (hc : Tryz.prog.built t qs = some cells)
  (h : wpList Tryz.prog ops Q rest (a.put o.dst (.agg cells)) w) : wpList Tryz.prog ops Q (o :: rest) a w := by
 subst hq
 exact wpList_build hg t parts ho (by rw [hc]; rfl) (by rw [hc]; exact h)
theorem builtWalk (s : St) (a : Nat → Option Addr) (c : Nat → Nat) (x y bud : Int) (once : Bool) : Tryz.prog.built 93 [(0, .agg #[.int .u8 s.kind, .int .i64 s.sec, .int .u8 s.rule.freq, .int .i64 s.rule.interval, .int .i64 s.rule.count, .int .u8 s.rule.uk, .int .i64 s.rule.us, .slice (a 4) s.rule.sec.length (c 4), .slice (a 5) s.rule.min.length (c 5), .slice (a 6) s.rule.hour.length (c 6), .slice (a 7) s.rule.day.length (c 7), .slice (a 8) s.rule.mday.length (c 8), .slice (a 9) s.rule.yday.length (c 9), .slice (a 10) s.rule.weekno.length (c 10), .slice (a 11) s.rule.month.length (c 11), .slice (a 12) s.rule.setpos.length (c 12), .int .i64 s.rule.wkst, .slice (a 13) s.inn.length (c 13), .slice (a 14) s.out.length (c 14)]), (1, .int .i64 x), (2, .int .i64 y), (3, .int .i64 315537897599), (4, .int .i64 bud), (5, .bool once)] = some #[.int .u8 s.kind, .int .i64 s.sec, .int .u8 s.rule.freq, .int .i64 s.rule.interval, .int .i64 s.rule.count, .int .u8 s.rule.uk, .int .i64 s.rule.us, .slice (a 4) s.rule.sec.length (c 4), .slice (a 5) s.rule.min.length (c 5), .slice (a 6) s.rule.hour.length (c 6), .slice (a 7) s.rule.day.length (c 7), .slice (a 8) s.rule.mday.length (c 8), .slice (a 9) s.rule.yday.length (c 9), .slice (a 10) s.rule.weekno.length (c 10), .slice (a 11) s.rule.month.length (c 11), .slice (a 12) s.rule.setpos.length (c 12), .int .i64 s.rule.wkst, .slice (a 13) s.inn.length (c 13), .slice (a 14) s.out.length (c 14), .int .i64 x, .int .i64 y, .int .i64 315537897599, .int .i64 bud, .bool once, .int .i64 0, .slice none 0 0] := by kernel_rfl
theorem oneWalk (s : St) (a : Nat → Option Addr) (c : Nat → Nat) (x y f bud : Int) (once : Bool) : (#[.int .u8 s.kind, .int .i64 s.sec, .int .u8 s.rule.freq, .int .i64 s.rule.interval, .int .i64 s.rule.count, .int .u8 s.rule.uk, .int .i64 s.rule.us, .slice (a 4) s.rule.sec.length (c 4), .slice (a 5) s.rule.min.length (c 5), .slice (a 6) s.rule.hour.length (c 6), .slice (a 7) s.rule.day.length (c 7), .slice (a 8) s.rule.mday.length (c 8), .slice (a 9) s.rule.yday.length (c 9), .slice (a 10) s.rule.weekno.length (c 10), .slice (a 11) s.rule.month.length (c 11), .slice (a 12) s.rule.setpos.length (c 12), .int .i64 s.rule.wkst, .slice (a 13) s.inn.length (c 13), .slice (a 14) s.out.length (c 14), .int .i64 x, .int .i64 y, .int .i64 f, .int .i64 bud, .bool once, .int .i64 0, .slice none 0 0] : Array Value).all (·.oneCell') = true := by simp [Value.oneCell']
theorem range_box {w : World} {A B : Array Value} {t t' : TypeId} : ((w.alloc (.cells A t)).alloc (.cells B t')).rangeAt w.heap.size 0 A.toList := World.rangeAt_alloc (range_new w A t) _
theorem range_top {w : World} {A : Array Value} {t : TypeId} {n : Nat} (hn : n = w.heap.size) : (w.alloc (.cells A t)).rangeAt n 0 A.toList := by subst hn; exact range_new w A t
theorem row_second (w : World) (A C : Obj) (B : Array Value) (t : TypeId) : (((w.alloc A).alloc (.cells B t)).alloc C).heap[w.heap.size + 1]? = some (.cells B t (0, 0)) := by
 have h := heap_alloc2_old (w.alloc A) (.cells B t) C
 rwa [World.size_alloc] at h
set_option maxHeartbeats 4000000 in
set_option maxRecDepth 100000 in
theorem start_any (w : World) (s : St) (a : Nat → Option Addr) (c : Nat → Nat) (x y bud : Int) (once : Bool) :
  Calls Tryz.prog 48 #[.agg (setQ s a c), .int .i64 x, .int .i64 y, .int .i64 bud, .bool once] w fun e w' => e = .returned (.agg (walkQ s a c x y bud once 0 (.slice none 0 0))) ∧ Below w.heap.size w w' := by
 obtain ⟨dW, uW, rW⟩ := undWalk
 obtain ⟨dS, uS, rS⟩ := undSet
 have sW := Lib.hid sizeWalk
 have sS := Lib.hid sizeSet
 replace uW := Lib.hid uW
 replace uS := Lib.hid uS
 replace rW := Lib.hid rW
 replace rS := Lib.hid rS
 unfold walkQ walkH setQ
 obtain ⟨F, hF⟩ : ∃ F, finS s = F := ⟨_, rfl⟩
 rw [hF]
 unfold finS at hF
 replace hF := Lib.hid hF
 go_enter Tryz.func48, Tryz.ntmps48
 go_upto_region 1 with fail
 go_upto_region 2 with (first
  | (refine wpList_load_arr rfl 48 _ rfl w.heap.size 0 rfl #[.int .u8 s.kind, .int .i64 s.sec, .int .u8 s.rule.freq, .int .i64 s.rule.interval, .int .i64 s.rule.count, .int .u8 s.rule.uk, .int .i64 s.rule.us, .slice (a 4) s.rule.sec.length (c 4), .slice (a 5) s.rule.min.length (c 5), .slice (a 6) s.rule.hour.length (c 6), .slice (a 7) s.rule.day.length (c 7), .slice (a 8) s.rule.mday.length (c 8), .slice (a 9) s.rule.yday.length (c 9), .slice (a 10) s.rule.weekno.length (c 10), .slice (a 11) s.rule.month.length (c 11), .slice (a 12) s.rule.setpos.length (c 12), .int .i64 s.rule.wkst, .slice (a 13) s.inn.length (c 13), .slice (a 14) s.out.length (c 14)] dS range_box uS.out rS.out sS.out ?_)
  | (refine wpList_build2 rfl 93 _ rfl [(0, .agg #[.int .u8 s.kind, .int .i64 s.sec, .int .u8 s.rule.freq, .int .i64 s.rule.interval, .int .i64 s.rule.count, .int .u8 s.rule.uk, .int .i64 s.rule.us, .slice (a 4) s.rule.sec.length (c 4), .slice (a 5) s.rule.min.length (c 5), .slice (a 6) s.rule.hour.length (c 6), .slice (a 7) s.rule.day.length (c 7), .slice (a 8) s.rule.mday.length (c 8), .slice (a 9) s.rule.yday.length (c 9), .slice (a 10) s.rule.weekno.length (c 10), .slice (a 11) s.rule.month.length (c 11), .slice (a 12) s.rule.setpos.length (c 12), .int .i64 s.rule.wkst, .slice (a 13) s.inn.length (c 13), .slice (a 14) s.out.length (c 14)]), (1, .int .i64 x), (2, .int .i64 y), (3, .int .i64 315537897599), (4, .int .i64 bud), (5, .bool once)] ?hq #[.int .u8 s.kind, .int .i64 s.sec, .int .u8 s.rule.freq, .int .i64 s.rule.interval, .int .i64 s.rule.count, .int .u8 s.rule.uk, .int .i64 s.rule.us, .slice (a 4) s.rule.sec.length (c 4), .slice (a 5) s.rule.min.length (c 5), .slice (a 6) s.rule.hour.length (c 6), .slice (a 7) s.rule.day.length (c 7), .slice (a 8) s.rule.mday.length (c 8), .slice (a 9) s.rule.yday.length (c 9), .slice (a 10) s.rule.weekno.length (c 10), .slice (a 11) s.rule.month.length (c 11), .slice (a 12) s.rule.setpos.length (c 12), .int .i64 s.rule.wkst, .slice (a 13) s.inn.length (c 13), .slice (a 14) s.out.length (c 14), .int .i64 x, .int .i64 y, .int .i64 315537897599, .int .i64 bud, .bool once, .int .i64 0, .slice none 0 0] (builtWalk s a c x y bud once) ?_; (case hq => first | rfl | simp [Act.eval]))
  | (refine wpList_store_new rfl 93 _ _ rfl #[.int .u8 s.kind, .int .i64 s.sec, .int .u8 s.rule.freq, .int .i64 s.rule.interval, .int .i64 s.rule.count, .int .u8 s.rule.uk, .int .i64 s.rule.us, .slice (a 4) s.rule.sec.length (c 4), .slice (a 5) s.rule.min.length (c 5), .slice (a 6) s.rule.hour.length (c 6), .slice (a 7) s.rule.day.length (c 7), .slice (a 8) s.rule.mday.length (c 8), .slice (a 9) s.rule.yday.length (c 9), .slice (a 10) s.rule.weekno.length (c 10), .slice (a 11) s.rule.month.length (c 11), .slice (a 12) s.rule.setpos.length (c 12), .int .i64 s.rule.wkst, .slice (a 13) s.inn.length (c 13), .slice (a 14) s.out.length (c 14), .int .i64 x, .int .i64 y, .int .i64 315537897599, .int .i64 bud, .bool once, .int .i64 0, .slice none 0 0] (w.heap.size + 1 + 1) rfl (by simp) rfl sW.out rfl (oneWalk s a c x y 315537897599 bud once) ?_))
 by_cases h : s.rule.uk = 0
 ·have hf := hF.out
  rw [if_neg (by simp [h])] at hf
  subst hf
  have hq : (s.rule.uk != 0) = false := by simp [h]
  clear h hF
  go_upto_region 4 with fail
  go_wp2_with (first
   | (refine wpList_load_arr rfl 93 _ rfl (w.heap.size + 1 + 1) 0 rfl #[.int .u8 s.kind, .int .i64 s.sec, .int .u8 s.rule.freq, .int .i64 s.rule.interval, .int .i64 s.rule.count, .int .u8 s.rule.uk, .int .i64 s.rule.us, .slice (a 4) s.rule.sec.length (c 4), .slice (a 5) s.rule.min.length (c 5), .slice (a 6) s.rule.hour.length (c 6), .slice (a 7) s.rule.day.length (c 7), .slice (a 8) s.rule.mday.length (c 8), .slice (a 9) s.rule.yday.length (c 9), .slice (a 10) s.rule.weekno.length (c 10), .slice (a 11) s.rule.month.length (c 11), .slice (a 12) s.rule.setpos.length (c 12), .int .i64 s.rule.wkst, .slice (a 13) s.inn.length (c 13), .slice (a 14) s.out.length (c 14), .int .i64 x, .int .i64 y, .int .i64 315537897599, .int .i64 bud, .bool once, .int .i64 0, .slice none 0 0] dW (range_top (by simp)) uW.out rW.out sW.out ?_)
   | (refine wpList_store_new2 rfl 93 _ _ rfl #[.int .u8 s.kind, .int .i64 s.sec, .int .u8 s.rule.freq, .int .i64 s.rule.interval, .int .i64 s.rule.count, .int .u8 s.rule.uk, .int .i64 s.rule.us, .slice (a 4) s.rule.sec.length (c 4), .slice (a 5) s.rule.min.length (c 5), .slice (a 6) s.rule.hour.length (c 6), .slice (a 7) s.rule.day.length (c 7), .slice (a 8) s.rule.mday.length (c 8), .slice (a 9) s.rule.yday.length (c 9), .slice (a 10) s.rule.weekno.length (c 10), .slice (a 11) s.rule.month.length (c 11), .slice (a 12) s.rule.setpos.length (c 12), .int .i64 s.rule.wkst, .slice (a 13) s.inn.length (c 13), .slice (a 14) s.out.length (c 14), .int .i64 x, .int .i64 y, .int .i64 315537897599, .int .i64 bud, .bool once, .int .i64 0, .slice none 0 0] (w.heap.size + 1) rfl (by simp) rfl sW.out rfl (oneWalk s a c x y 315537897599 bud once) ?_))
  refine bodyPost_ret (results_cell_row (P := Tryz.prog) Tryz.results48 _ _ (w.heap.size + 1) 93 #[.int .u8 s.kind, .int .i64 s.sec, .int .u8 s.rule.freq, .int .i64 s.rule.interval, .int .i64 s.rule.count, .int .u8 s.rule.uk, .int .i64 s.rule.us, .slice (a 4) s.rule.sec.length (c 4), .slice (a 5) s.rule.min.length (c 5), .slice (a 6) s.rule.hour.length (c 6), .slice (a 7) s.rule.day.length (c 7), .slice (a 8) s.rule.mday.length (c 8), .slice (a 9) s.rule.yday.length (c 9), .slice (a 10) s.rule.weekno.length (c 10), .slice (a 11) s.rule.month.length (c 11), .slice (a 12) s.rule.setpos.length (c 12), .int .i64 s.rule.wkst, .slice (a 13) s.inn.length (c 13), .slice (a 14) s.out.length (c 14), .int .i64 x, .int .i64 y, .int .i64 315537897599, .int .i64 bud, .bool once, .int .i64 0, .slice none 0 0] (0, 0) _ rfl (row_second w _ _ _ _) Tryz.underlying93 rfl sW.out) rfl ⟨rfl, ?_⟩
  exact (show _ by (repeat' (first|assumption|exact Below.refl _ _|apply Below.next_alloc|apply Below.drew|(apply Below.next;rotate_left;assumption))))
 ·have hf := hF.out
  rw [if_pos h] at hf
  have hq : (s.rule.uk != 0) = true := by simp [h]
  clear h hF
  subst hf
  go_upto_region 4 with fail
  go_wp2_with (first
   | (refine wpList_load_arr rfl 93 _ rfl (w.heap.size + 1 + 1) 0 rfl #[.int .u8 s.kind, .int .i64 s.sec, .int .u8 s.rule.freq, .int .i64 s.rule.interval, .int .i64 s.rule.count, .int .u8 s.rule.uk, .int .i64 s.rule.us, .slice (a 4) s.rule.sec.length (c 4), .slice (a 5) s.rule.min.length (c 5), .slice (a 6) s.rule.hour.length (c 6), .slice (a 7) s.rule.day.length (c 7), .slice (a 8) s.rule.mday.length (c 8), .slice (a 9) s.rule.yday.length (c 9), .slice (a 10) s.rule.weekno.length (c 10), .slice (a 11) s.rule.month.length (c 11), .slice (a 12) s.rule.setpos.length (c 12), .int .i64 s.rule.wkst, .slice (a 13) s.inn.length (c 13), .slice (a 14) s.out.length (c 14), .int .i64 x, .int .i64 y, .int .i64 s.rule.us, .int .i64 bud, .bool once, .int .i64 0, .slice none 0 0] dW (range_top (by simp)) uW.out rW.out sW.out ?_)
   | (refine wpList_store_new2 rfl 93 _ _ rfl #[.int .u8 s.kind, .int .i64 s.sec, .int .u8 s.rule.freq, .int .i64 s.rule.interval, .int .i64 s.rule.count, .int .u8 s.rule.uk, .int .i64 s.rule.us, .slice (a 4) s.rule.sec.length (c 4), .slice (a 5) s.rule.min.length (c 5), .slice (a 6) s.rule.hour.length (c 6), .slice (a 7) s.rule.day.length (c 7), .slice (a 8) s.rule.mday.length (c 8), .slice (a 9) s.rule.yday.length (c 9), .slice (a 10) s.rule.weekno.length (c 10), .slice (a 11) s.rule.month.length (c 11), .slice (a 12) s.rule.setpos.length (c 12), .int .i64 s.rule.wkst, .slice (a 13) s.inn.length (c 13), .slice (a 14) s.out.length (c 14), .int .i64 x, .int .i64 y, .int .i64 s.rule.us, .int .i64 bud, .bool once, .int .i64 0, .slice none 0 0] (w.heap.size + 1) rfl (by simp) rfl sW.out rfl (oneWalk s a c x y s.rule.us bud once) ?_))
  refine bodyPost_ret (results_cell_row (P := Tryz.prog) Tryz.results48 _ _ (w.heap.size + 1) 93 #[.int .u8 s.kind, .int .i64 s.sec, .int .u8 s.rule.freq, .int .i64 s.rule.interval, .int .i64 s.rule.count, .int .u8 s.rule.uk, .int .i64 s.rule.us, .slice (a 4) s.rule.sec.length (c 4), .slice (a 5) s.rule.min.length (c 5), .slice (a 6) s.rule.hour.length (c 6), .slice (a 7) s.rule.day.length (c 7), .slice (a 8) s.rule.mday.length (c 8), .slice (a 9) s.rule.yday.length (c 9), .slice (a 10) s.rule.weekno.length (c 10), .slice (a 11) s.rule.month.length (c 11), .slice (a 12) s.rule.setpos.length (c 12), .int .i64 s.rule.wkst, .slice (a 13) s.inn.length (c 13), .slice (a 14) s.out.length (c 14), .int .i64 x, .int .i64 y, .int .i64 s.rule.us, .int .i64 bud, .bool once, .int .i64 0, .slice none 0 0] (0, 0) _ rfl (row_second w _ _ _ _) Tryz.underlying93 rfl sW.out) rfl ⟨rfl, ?_⟩
  exact (show _ by (repeat' (first|assumption|exact Below.refl _ _|apply Below.next_alloc|apply Below.drew|(apply Below.next;rotate_left;assumption))))
end Go.Proofs.YtkbohijlhhpfbaaGreatDoor.Rs
/- The walk through errandref26's Check: a date with a time (printed by gen_rcheck.py). -/
namespace Go.Proofs.YtkbohijlhhpfbaaGreatDoor.Rs
open Go.RowKit Ru Ut Cw Ra Xp
set_option maxHeartbeats 16000000 in
set_option maxRecDepth 100000 in
theorem rc4 (w : World) (s : St) (a : Nat → Option Addr) (c : Nat → Nat) (hL : LS w s (svQ s.rule a c) (.slice (a 13) s.inn.length (c 13)) (.slice (a 14) s.out.length (c 14))) (hW : WS s) (h1 : ¬ Mo.chk s.kind s.sec ≠ 0) (h2 : ¬ chkR s.rule ≠ 0) (h3 : ¬ (s.rule.uk ≠ 0 ∧ s.rule.uk ≠ s.kind)) (h4 : timed s.rule ∧ s.kind = 1) :
  Calls Tryz.prog 27 #[.agg (setQ s a c)] w fun e w' => e = .returned (.int .i64 (chkS s)) ∧ Below w.heap.size w w' := by
 unfold chkS
 have FM := fun W => Ma.rcheck_any s.kind s.sec hW.2.1 W
 have FR : ∀ W, Below w.heap.size w W → Calls Tryz.prog 37 #[.agg #[.int .u8 s.rule.freq, .int .i64 s.rule.interval, .int .i64 s.rule.count, .int .u8 s.rule.uk, .int .i64 s.rule.us, .slice (a 4) s.rule.sec.length (c 4), .slice (a 5) s.rule.min.length (c 5), .slice (a 6) s.rule.hour.length (c 6), .slice (a 7) s.rule.day.length (c 7), .slice (a 8) s.rule.mday.length (c 8), .slice (a 9) s.rule.yday.length (c 9), .slice (a 10) s.rule.weekno.length (c 10), .slice (a 11) s.rule.month.length (c 11), .slice (a 12) s.rule.setpos.length (c 12), .int .i64 s.rule.wkst]] W fun e w' => e = .returned (.int .i64 (chkR s.rule)) ∧ Below W.heap.size W w' := fun W hB => rcheckR_any W s.rule (svQ s.rule a c) (hL.1.later hB) hW.1.1 hW.1.2.1.2 hW.1.2.1.1
 have FI : ∀ W, Below w.heap.size w W → Calls Tryz.prog 60 #[.slice (a 13) s.inn.length (c 13), .int .u8 s.kind] W fun e w' => e = .returned (.int .i64 (alike s.kind s.inn)) ∧ Below W.heap.size W w' := fun W hB => rdates_any s.kind (hL.2.1.below hB) hW.2.2.1 (by have := hW.2.2.2.2.1; omega)
 have FO : ∀ W, Below w.heap.size w W → Calls Tryz.prog 60 #[.slice (a 14) s.out.length (c 14), .int .u8 s.kind] W fun e w' => e = .returned (.int .i64 (alike s.kind s.out)) ∧ Below W.heap.size W w' := fun W hB => rdates_any s.kind (hL.2.2.below hB) hW.2.2.2.1 (by have := hW.2.2.2.2.2; omega)
 have n4 : s.rule.sec.length ≤ 1000 := hW.1.1.1 4 (by decide) (by decide) (by decide)
 have n5 : s.rule.min.length ≤ 1000 := hW.1.1.1 5 (by decide) (by decide) (by decide)
 have n6 : s.rule.hour.length ≤ 1000 := hW.1.1.1 6 (by decide) (by decide) (by decide)
 have ni := hW.2.2.2.2.1
 have no := hW.2.2.2.2.2
 unfold setQ Ma.val at *
 clear hL hW
 rw [if_neg h1]
 have h1' : Mo.chk s.kind s.sec = 0 := Decidable.byContradiction h1
 rw [h1'] at FM
 clear h1 h1'
 rw [if_neg h2]
 have h2' : chkR s.rule = 0 := Decidable.byContradiction h2
 rw [h2'] at FR
 clear h2 h2'
 rw [if_neg h3]
 have hu : (s.rule.uk != 0) = false ∨ ((s.rule.uk != 0) = true ∧ (s.rule.uk != s.kind) = false) := by
  by_cases h : s.rule.uk = 0
  ·exact .inl (by simp [h])
  ·exact .inr ⟨by simp [h], by simp; exact Decidable.byContradiction fun hh => h3 ⟨h, hh⟩⟩
 clear h3
 rw [if_pos h4]
 have hk : (s.kind == 1) = true := by simp [h4.2]
 have ht : s.rule.freq < 3 ∨ (3 ≤ s.rule.freq ∧ (0 : Int) < (s.rule.hour.length : Int) + (s.rule.min.length : Int) + (s.rule.sec.length : Int)) := by
  have := h4.1
  unfold timed at this
  omega
 clear h4 FI FO
 replace FM := Lib.hid FM
 replace FR := Lib.hid FR
 generalize s.rule.hour.length = m6 at *
 generalize s.rule.min.length = m5 at *
 generalize s.rule.sec.length = m4 at *
 rcases hu with hu | ⟨hu, hu2⟩
 all_goals
  rcases ht with ht | ⟨ht, ht1⟩
 all_goals
  as_aux_lemma =>
  go_enter Tryz.func27, Tryz.ntmps27
  go_wp2_with (first
   | (go_at_call 59; (with_reducible refine (FM.out _).mono ?_); rintro e w1 ⟨rfl, hB1⟩; have K1 := Lib.hid (Blk.mk hB1); have B1 := Lib.hid (Below.next (Below.next_alloc (Below.refl _ w) _) hB1); clear hB1; obtain ⟨s0, s1, s2, s3, s4, s5, s6, s7, s8, s9, s10, s11, s12, s13, s14, s15, s16, s17, s18⟩ := K1.out.nineteen; have z1 := K1.out.1)
   | (go_at_call 37; (with_reducible refine (FR.out _ (Below.next_alloc B1.out _)).mono ?_); rintro e w2 ⟨rfl, hB2⟩; have KR := Lib.hid (Blk.mk hB2); have b2 := Lib.hid (Below.next (Below.next_alloc (Below.refl _ w1) _) hB2); have B2 := Lib.hid (Below.next B1.out b2.out); have K2 := Lib.hid (K1.out.later b2.out K1.out.1); clear hB2 s0 s1 s2 s3 s4 s5 s6 s7 s8 s9 s10 s11 s12 s13 s14 s15 s16 s17 s18 z1; obtain ⟨s0, s1, s2, s3, s4, s5, s6, s7, s8, s9, s10, s11, s12, s13, s14, s15, s16, s17, s18⟩ := K2.out.nineteen; obtain ⟨r0, r1, r2, r3, r4, r5, r6, r7, r8, r9, r10, r11, r12, r13, r14⟩ := KR.out.fifteen; have z2 := K2.out.1; have z2r := KR.out.1))
  go_ret
  exact ⟨rfl, B2.out⟩
end Go.Proofs.YtkbohijlhhpfbaaGreatDoor.Rs
/- The walk through errandref26's Check: the dates that are put in (printed by gen_rcheck.py). -/
namespace Go.Proofs.YtkbohijlhhpfbaaGreatDoor.Rs
open Go.RowKit Ru Ut Cw Ra Xp
set_option maxHeartbeats 16000000 in
set_option maxRecDepth 100000 in
theorem rc6 (w : World) (s : St) (a : Nat → Option Addr) (c : Nat → Nat) (hL : LS w s (svQ s.rule a c) (.slice (a 13) s.inn.length (c 13)) (.slice (a 14) s.out.length (c 14))) (hW : WS s) (h1 : ¬ Mo.chk s.kind s.sec ≠ 0) (h2 : ¬ chkR s.rule ≠ 0) (h3 : ¬ (s.rule.uk ≠ 0 ∧ s.rule.uk ≠ s.kind)) (h4 : ¬ (timed s.rule ∧ s.kind = 1)) (h5 : ¬ (12 < s.inn.length ∨ 12 < s.out.length)) (h6 : alike s.kind s.inn ≠ 0) :
  Calls Tryz.prog 27 #[.agg (setQ s a c)] w fun e w' => e = .returned (.int .i64 (chkS s)) ∧ Below w.heap.size w w' := by
 unfold chkS
 have FM := fun W => Ma.rcheck_any s.kind s.sec hW.2.1 W
 have FR : ∀ W, Below w.heap.size w W → Calls Tryz.prog 37 #[.agg #[.int .u8 s.rule.freq, .int .i64 s.rule.interval, .int .i64 s.rule.count, .int .u8 s.rule.uk, .int .i64 s.rule.us, .slice (a 4) s.rule.sec.length (c 4), .slice (a 5) s.rule.min.length (c 5), .slice (a 6) s.rule.hour.length (c 6), .slice (a 7) s.rule.day.length (c 7), .slice (a 8) s.rule.mday.length (c 8), .slice (a 9) s.rule.yday.length (c 9), .slice (a 10) s.rule.weekno.length (c 10), .slice (a 11) s.rule.month.length (c 11), .slice (a 12) s.rule.setpos.length (c 12), .int .i64 s.rule.wkst]] W fun e w' => e = .returned (.int .i64 (chkR s.rule)) ∧ Below W.heap.size W w' := fun W hB => rcheckR_any W s.rule (svQ s.rule a c) (hL.1.later hB) hW.1.1 hW.1.2.1.2 hW.1.2.1.1
 have FI : ∀ W, Below w.heap.size w W → Calls Tryz.prog 60 #[.slice (a 13) s.inn.length (c 13), .int .u8 s.kind] W fun e w' => e = .returned (.int .i64 (alike s.kind s.inn)) ∧ Below W.heap.size W w' := fun W hB => rdates_any s.kind (hL.2.1.below hB) hW.2.2.1 (by have := hW.2.2.2.2.1; omega)
 have FO : ∀ W, Below w.heap.size w W → Calls Tryz.prog 60 #[.slice (a 14) s.out.length (c 14), .int .u8 s.kind] W fun e w' => e = .returned (.int .i64 (alike s.kind s.out)) ∧ Below W.heap.size W w' := fun W hB => rdates_any s.kind (hL.2.2.below hB) hW.2.2.2.1 (by have := hW.2.2.2.2.2; omega)
 have n4 : s.rule.sec.length ≤ 1000 := hW.1.1.1 4 (by decide) (by decide) (by decide)
 have n5 : s.rule.min.length ≤ 1000 := hW.1.1.1 5 (by decide) (by decide) (by decide)
 have n6 : s.rule.hour.length ≤ 1000 := hW.1.1.1 6 (by decide) (by decide) (by decide)
 have ni := hW.2.2.2.2.1
 have no := hW.2.2.2.2.2
 unfold setQ Ma.val at *
 clear hL hW
 rw [if_neg h1]
 have h1' : Mo.chk s.kind s.sec = 0 := Decidable.byContradiction h1
 rw [h1'] at FM
 clear h1 h1'
 rw [if_neg h2]
 have h2' : chkR s.rule = 0 := Decidable.byContradiction h2
 rw [h2'] at FR
 clear h2 h2'
 rw [if_neg h3]
 have hu : (s.rule.uk != 0) = false ∨ ((s.rule.uk != 0) = true ∧ (s.rule.uk != s.kind) = false) := by
  by_cases h : s.rule.uk = 0
  ·exact .inl (by simp [h])
  ·exact .inr ⟨by simp [h], by simp; exact Decidable.byContradiction fun hh => h3 ⟨h, hh⟩⟩
 clear h3
 rw [if_neg h4]
 have ht : (s.kind == 1) = false ∨ ((s.kind == 1) = true ∧ 3 ≤ s.rule.freq ∧ ¬ (0 : Int) < (s.rule.hour.length : Int) + (s.rule.min.length : Int) + (s.rule.sec.length : Int)) := by
  by_cases h : s.kind = 1
  ·refine .inr ⟨by simp [h], ?_⟩
   have : ¬ timed s.rule := fun hh => h4 ⟨hh, h⟩
   unfold timed at this
   omega
  ·exact .inl (by simp [h])
 clear h4
 rw [if_neg h5]
 have hm1 : ¬ (12 : Int) < (s.inn.length : Int) := by omega
 have hm2 : ¬ (12 : Int) < (s.out.length : Int) := by omega
 clear h5
 rw [if_pos h6]
 have q6 : (alike s.kind s.inn != 0) = true := by simp [h6]
 clear h6 FO
 replace FM := Lib.hid FM
 replace FR := Lib.hid FR
 replace FI := Lib.hid FI
 generalize s.rule.hour.length = m6 at *
 generalize s.rule.min.length = m5 at *
 generalize s.rule.sec.length = m4 at *
 rcases hu with hu | ⟨hu, hu2⟩
 all_goals
  rcases ht with ht | ⟨ht, ht1, ht2⟩
 all_goals
  as_aux_lemma =>
  go_enter Tryz.func27, Tryz.ntmps27
  go_wp2_with (first
   | (go_at_call 59; (with_reducible refine (FM.out _).mono ?_); rintro e w1 ⟨rfl, hB1⟩; have K1 := Lib.hid (Blk.mk hB1); have B1 := Lib.hid (Below.next (Below.next_alloc (Below.refl _ w) _) hB1); clear hB1; obtain ⟨s0, s1, s2, s3, s4, s5, s6, s7, s8, s9, s10, s11, s12, s13, s14, s15, s16, s17, s18⟩ := K1.out.nineteen; have z1 := K1.out.1)
   | (go_at_call 37; (with_reducible refine (FR.out _ (Below.next_alloc B1.out _)).mono ?_); rintro e w2 ⟨rfl, hB2⟩; have KR := Lib.hid (Blk.mk hB2); have b2 := Lib.hid (Below.next (Below.next_alloc (Below.refl _ w1) _) hB2); have B2 := Lib.hid (Below.next B1.out b2.out); have K2 := Lib.hid (K1.out.later b2.out K1.out.1); clear hB2 s0 s1 s2 s3 s4 s5 s6 s7 s8 s9 s10 s11 s12 s13 s14 s15 s16 s17 s18 z1; obtain ⟨s0, s1, s2, s3, s4, s5, s6, s7, s8, s9, s10, s11, s12, s13, s14, s15, s16, s17, s18⟩ := K2.out.nineteen; obtain ⟨r0, r1, r2, r3, r4, r5, r6, r7, r8, r9, r10, r11, r12, r13, r14⟩ := KR.out.fifteen; have z2 := K2.out.1; have z2r := KR.out.1)
   | (go_at_call 60; (with_reducible refine (FI.out _ B2.out).mono ?_); rintro e w3 ⟨rfl, hB3⟩; have B3 := Lib.hid (Below.next B2.out hB3); have K3 := Lib.hid (K2.out.later hB3 K2.out.1); clear hB3 s0 s1 s2 s3 s4 s5 s6 s7 s8 s9 s10 s11 s12 s13 s14 s15 s16 s17 s18 r0 r1 r2 r3 r4 r5 r6 r7 r8 r9 r10 r11 r12 r13 r14 FI; obtain ⟨s0, s1, s2, s3, s4, s5, s6, s7, s8, s9, s10, s11, s12, s13, s14, s15, s16, s17, s18⟩ := K3.out.nineteen; have z3 := K3.out.1))
  go_ret
  exact ⟨rfl, B3.out⟩
end Go.Proofs.YtkbohijlhhpfbaaGreatDoor.Rs

import Derived.Test.YtkbohijlhhpfbaaGreatDoorVYy
import Derived.Test.YtkbohijlhhpfbaaGreatDoorVYm
import Derived.Deep.DeepCutAuto
import Derived.WalkMore
import Derived.IntWalk
/- The walk through rset's run (printed by gen_run.py). -/
namespace Go.Proofs.YtkbohijlhhpfbaaGreatDoor.Rs
open Go.RowKit Ru Ut Cw Ra Xp
theorem Blk.aside {q : Option Nat} {w0 w : World} {u0 u : Value} {k : Nat} {C : Array Value} (h : Blk w0 k C) (A : Asd q w0 u0 w u) (hq : q ≠ some k) (hu : u0.ownBlock ≠ some k) : Blk w k C :=
 ⟨Nat.lt_of_lt_of_le h.1 A.size, fun i v hv => A.cell h.1 hq hu (h.2 i v hv)⟩
theorem WK.draw {W : World} {b : Nat} {s : St} {a : Nat → Option Addr} {c : Nat → Nat} {x y bud : Int} {once : Bool} {used : Int} {v : Value} {n : Nat} (h : WK W b s a c x y bud once used v) : WK (W.drewN n) b s a c x y bud once used v := h
theorem Asd.draw {q : Option Nat} {w0 w : World} {u0 u : Value} {n : Nat} (h : Asd q w0 u0 w u) : Asd q w0 u0 (w.drewN n) u := h.quiet (Base.below_drewN (Below.refl _ _) n)
def GivesRun (W : World) (b : Nat) (s : St) (a : Nat → Option Addr) (c : Nat → Nat) (x y bud : Int) (once : Bool) (o : Option (Int × List Int)) (e : Ending) (w' : World) : Prop :=
 Below b W w' ∧ match o with
 | none => e = .returned (.int .i64 13)
 | some q => e = .returned (.int .i64 0) ∧ ∃ v, WK w' b s a c x y bud once q.1 v ∧ OwnI w' (b + 1) v q.2
theorem givesRun {W w' : World} {b : Nat} {s : St} {a : Nat → Option Addr} {c : Nat → Nat} {x y bud : Int} {once : Bool} {o : Option (Int × List Int)} {u : Int} {m : List Int} {v : Value} (h : o = some (u, m)) (hB : Below b W w') (hK : WK w' b s a c x y bud once u v) (hO : OwnI w' (b + 1) v m) : GivesRun W b s a c x y bud once o (.returned (.int .i64 0)) w' := by
 subst h; exact ⟨hB, rfl, v, hK, hO⟩
theorem givesRun_none {W w' : World} {b : Nat} {s : St} {a : Nat → Option Addr} {c : Nat → Nat} {x y bud : Int} {once : Bool} {o : Option (Int × List Int)} (h : o = none) (hB : Below b W w') : GivesRun W b s a c x y bud once o (.returned (.int .i64 13)) w' := by
 subst h; exact ⟨hB, rfl⟩
set_option maxHeartbeats 16000000 in
set_option maxRecDepth 100000 in
theorem run_none {W : World} {b : Nat} (s : St) (a : Nat → Option Addr) (c : Nat → Nat) (x y bud : Int) (once : Bool) (hT : ∀ W2, Below b W W2 → Tab W2) (hK : WK W b s a c x y bud once 0 (.slice none 0 0)) (hW : WS s) (hc : chkS s = 0) (hbg : begin (pS s x y bud once) = none) :
  Calls Tryz.prog 49 #[.pointer (some ⟨b, 0, none⟩)] W (GivesRun W b s a c x y bud once (walk (pS s x y bud once))) := by
 have f0 := hW.1.2.1.1
 have hF := fineS f0 hc x y bud once
 have hb := hK.1.1
 have FB : ∀ W2, Below W.heap.size W W2 → Calls Tryz.prog 89 #[.pointer (some ⟨b, 0, none⟩)] W2 fun e w' => e = .returned (.tuple #[.int .i64 (bg (pS s x y bud once)).1, .bool (bg (pS s x y bud once)).2]) ∧ Below W2.heap.size W2 w' := fun W2 hB => begin_any (hT W2 (hB.mono (Nat.le_of_lt hb))) (hK.later hB hb) f0
 have KL := fun W2 (h : Below W.heap.size W W2) => hK.later h hb
 obtain ⟨c0, c1, c2, c3, c4, c5, c6, c7, c8, c9, c10, c11, c12, c13, c14, c15, c16, c17, c18, c19, c20, c21, c22, c23, c24, c25⟩ := hK.cells
 clear c0 c17 c18 c19 c20 c21 c22 c23 c24 c25
 rw [bg_none hbg] at FB
 have hr := Lib.hid (walk_none hbg)
 replace FB := Lib.hid FB
 replace KL := Lib.hid KL
 clear hbg hK hT hW hc hF
 go_enter Tryz.func49, Tryz.ntmps49
 go_wp2
 go_step3
 go_wp2
 go_region
 go_wp2_with (first
  | (go_at_call 89; (with_reducible refine (FB.out _ (by (repeat' (first|assumption|exact Below.refl _ _|apply Below.next_alloc|apply Below.drew|(apply Below.next;rotate_left;assumption))))).mono ?_); rintro e w1 ⟨rfl, hB1⟩; have Bw := Lib.hid (Below.next (Below.next_alloc (Below.refl _ W) _) (nb1 hB1))))
 rw [Exit.noGoto_ret]
 go_ret
 exact givesRun hr.out (Bw.out.mono (Nat.le_of_lt hb)) (KL.out _ Bw.out) (OwnI.nil _ _)
end Go.Proofs.YtkbohijlhhpfbaaGreatDoor.Rs
/- The walk through rset's run (printed by gen_run.py). -/
namespace Go.Proofs.YtkbohijlhhpfbaaGreatDoor.Rs
open Go.RowKit Ru Ut Cw Ra Xp
set_option maxHeartbeats 16000000 in
set_option maxRecDepth 100000 in
theorem run_some {W : World} {b : Nat} (s : St) (a : Nat → Option Addr) (c : Nat → Nat) (x y bud : Int) (once : Bool) (hT : ∀ W2, Below b W W2 → Tab W2) (hK : WK W b s a c x y bud once 0 (.slice none 0 0)) (hL : ∀ W2, Below b W W2 → LS W2 s (svQ s.rule a c) (.slice (a 13) s.inn.length (c 13)) (.slice (a 14) s.out.length (c 14))) (hW : WS s) (hc : chkS s = 0) (hb0 : 0 ≤ bud) (hb1 : bud ≤ 4000) (i0 : Int) (hbg : begin (pS s x y bud once) = some i0) :
  Calls Tryz.prog 49 #[.pointer (some ⟨b, 0, none⟩)] W (GivesRun W b s a c x y bud once (walk (pS s x y bud once))) := by
 have f0 := hW.1.2.1.1
 have hF := fineS f0 hc x y bud once
 have hb := hK.1.1
 have FB : ∀ W2, Below W.heap.size W W2 → Calls Tryz.prog 89 #[.pointer (some ⟨b, 0, none⟩)] W2 fun e w' => e = .returned (.tuple #[.int .i64 (bg (pS s x y bud once)).1, .bool (bg (pS s x y bud once)).2]) ∧ Below W2.heap.size W2 w' := fun W2 hB => begin_any (hT W2 (hB.mono (Nat.le_of_lt hb))) (hK.later hB hb) f0
 have KL := fun W2 (h : Below W.heap.size W W2) => hK.later h hb
 obtain ⟨c0, c1, c2, c3, c4, c5, c6, c7, c8, c9, c10, c11, c12, c13, c14, c15, c16, c17, c18, c19, c20, c21, c22, c23, c24, c25⟩ := hK.cells
 clear c0 c17 c18 c19 c20 c21 c22 c23 c24 c25
 obtain ⟨k1, k2, c0', c1'⟩ := head_ok hF.2.1
 change 1 ≤ s.rule.interval at k1
 change s.rule.interval ≤ 1000 at k2
 change 0 ≤ s.rule.count at c0'
 change s.rule.count ≤ 1000 at c1'
 obtain ⟨hin0, hi00, hi01⟩ := begin_in hF hbg
 have hwk := Lib.hid (walk_some hbg)
 rw [bg_some hbg] at FB
 have FL : ∀ W2, Below b W W2 → Calls Tryz.prog 90 #[.int .u8 s.rule.freq, .int .i64 s.rule.wkst] W2 fun e w' => e = .returned (.int .i64 (lastP (pS s x y bud once))) ∧ W2 = w' := fun W2 hB => last_any _ _ W2 (hT W2 hB) f0
 have FS : ∀ i W2, Below b W W2 → Calls Tryz.prog 68 #[.int .u8 s.rule.freq, .int .i64 s.rule.wkst, .int .i64 i] W2 fun e w' => e = .returned (.tuple #[.int .i64 (fr s.rule i), .int .i64 (tt s.rule i)]) ∧ W2 = w' := fun i W2 hB => stretch_any _ _ i W2 (hT W2 hB) f0
 have FC : ∀ i W2, Below b W W2 → Calls Tryz.prog 12 #[.agg #[.int .u8 s.rule.freq, .int .i64 s.rule.interval, .int .i64 s.rule.count, .int .u8 s.rule.uk, .int .i64 s.rule.us, .slice (a 4) s.rule.sec.length (c 4), .slice (a 5) s.rule.min.length (c 5), .slice (a 6) s.rule.hour.length (c 6), .slice (a 7) s.rule.day.length (c 7), .slice (a 8) s.rule.mday.length (c 8), .slice (a 9) s.rule.yday.length (c 9), .slice (a 10) s.rule.weekno.length (c 10), .slice (a 11) s.rule.month.length (c 11), .slice (a 12) s.rule.setpos.length (c 12), .int .i64 s.rule.wkst], .int .i64 s.sec, .int .i64 i] W2 fun e w' => e = .returned (.int .i64 (costE s.rule s.sec i)) ∧ Below W2.heap.size W2 w' := fun i W2 hB => cost_any W2 s.rule (svQ s.rule a c) s.sec i (hT W2 hB) (hL W2 hB).1 hW.1
 have FO : ∀ i W2, Below b W W2 → Calls Tryz.prog 17 #[.agg #[.int .u8 s.rule.freq, .int .i64 s.rule.interval, .int .i64 s.rule.count, .int .u8 s.rule.uk, .int .i64 s.rule.us, .slice (a 4) s.rule.sec.length (c 4), .slice (a 5) s.rule.min.length (c 5), .slice (a 6) s.rule.hour.length (c 6), .slice (a 7) s.rule.day.length (c 7), .slice (a 8) s.rule.mday.length (c 8), .slice (a 9) s.rule.yday.length (c 9), .slice (a 10) s.rule.weekno.length (c 10), .slice (a 11) s.rule.month.length (c 11), .slice (a 12) s.rule.setpos.length (c 12), .int .i64 s.rule.wkst], .int .i64 s.sec, .int .i64 i] W2 (Gives W2 (ofE s.rule s.sec i)) := fun i W2 hB => of_any W2 s.rule (svQ s.rule a c) s.sec i (hT W2 hB) (hL W2 hB).1 hW.1
 have FM : ∀ t W2 used v m, Below b W W2 → WK W2 b s a c x y bud once used v → OwnI W2 (b + 1) v m → m.length ≤ 100000 → Calls Tryz.prog 91 #[.pointer (some ⟨b, 0, none⟩), .int .i64 t] W2 (GivesM W2 b s a c x y bud once used v t m) := fun t W2 used v m hB hk ho hm => meet_any t hk ho (fun W3 h3 => (hL W3 (hB.trans h3)).2.2) (by have := hW.2.2.2.2.2; omega) hm
 obtain ⟨LA, hLA⟩ : ∃ f, lastP (pS s x y bud once) = f := ⟨_, rfl⟩
 rw [hLA] at FL
 obtain ⟨fin, hfn⟩ : ∃ f, finS s = f := ⟨_, rfl⟩
 have hk1 := Lib.hid (show 1 ≤ (pS s x y bud once).r.interval from k1)
 have hF2 := Lib.hid hF
 replace hin0 := Lib.hid hin0
 replace FB := Lib.hid FB
 replace FL := Lib.hid FL
 replace FS := Lib.hid FS
 replace FC := Lib.hid FC
 replace FO := Lib.hid FO
 replace FM := Lib.hid FM
 replace KL := Lib.hid KL
 replace hLA := Lib.hid hLA
 replace hfn := Lib.hid hfn
 clear hbg hK hL hT hW hc hF
 go_enter Tryz.func49, Tryz.ntmps49
 go_wp2
 go_step3
 go_wp2
 go_region
 go_wp2_with (first
  | (go_at_call 89; (with_reducible refine (FB.out _ (by (repeat' (first|assumption|exact Below.refl _ _|apply Below.next_alloc|apply Below.drew|(apply Below.next;rotate_left;assumption))))).mono ?_); rintro e w1 ⟨rfl, hB1⟩; have Bw := Lib.hid (Below.next (Below.next_alloc (Below.refl _ W) _) (nb1 hB1)); have KR := Lib.hid (Blk.mk (nb1 hB1)); clear hB1; obtain ⟨r0, r1, r2, r3, r4, r5, r6, r7, r8, r9, r10, r11, r12, r13, r14⟩ := KR.out.fifteen; have z1 := KR.out.1; have Bw1 := Lib.hid (Bw.out.mono (Nat.le_of_lt hb)))
  | (go_at_call 90; (with_reducible refine (FL.out _ Bw1.out).mono ?_); rintro e w2 ⟨rfl, rfl⟩))
 go_step3
 go_wp2
 have KW := Lib.hid (KL.out _ Bw.out)
 have hbw : b < w1.heap.size := KW.out.1.1
 clear c1 c2 c3 c4 c5 c6 c7 c8 c9 c10 c11 c12 c13 c14 c15 c16 r0 r1 r2 r3 r4 r5 r6 r7 r8 r9 r10 r11 r12 r13 r14
 go_loopw [5, 7] (fun vi vl wr => ∃ (i left used : Int) (v : Value) (m : List Int), vi = .int .i64 i ∧ vl = .int .i64 left ∧ 0 ≤ i ∧ i ≤ 315537899000 ∧ 0 ≤ used ∧ used ≤ bud ∧ -used ≤ left ∧ left ≤ 1000 ∧ Hid (lastP (pS s x y bud once) < i ∨ Inp (pS s x y bud once) i) ∧ Hid ((m.length : Int) ≤ used) ∧ Hid (WK wr b s a c x y bud once used v) ∧ Hid (OwnI wr (b + 1) v m) ∧ Hid (Asd (some b) w1 (.slice none 0 0) wr v) ∧ Hid (runF (pS s x y bud once) i left used m = walk (pS s x y bud once))) (fun vi _ _ => (LA + 1 - intOf vi).toNat)
 case atStart => exact ⟨i0, s.rule.count, 0, .slice none 0 0, [], rfl, rfl, hi00, hi01, by omega, hb0, by omega, by omega, hin0, Lib.hid (by simp), KW, Lib.hid (OwnI.nil _ _), Lib.hid (Asd.refl _ _ _), Lib.hid hwk.out.symm⟩
 case round =>
  as_aux_lemma =>
  obtain ⟨i, left, used, v, m, rfl, rfl, hi0, hi1, hu0, hu1, hl0, hl1, hin, hml, hK, hO, hA, hrun⟩ := hrel
  obtain ⟨wo, rfl⟩ : ∃ x, x = wr := ⟨_, rfl⟩
  have Bc := Lib.hid (hA.out.belowNil (B := b) (fun k e => by cases e; exact Nat.le_refl _) (Nat.le_of_lt hbw))
  have Bo := Lib.hid (Bw1.out.trans Bc.out)
  have hbn : (some b : Option Nat) ≠ some W.heap.size := fun e => by injection e with e; omega
  have KR2 := Lib.hid (KR.out.aside hA.out hbn (fun e => by cases e))
  obtain ⟨r0, r1, r2, r3, r4, r5, r6, r7, r8, r9, r10, r11, r12, r13, r14⟩ := KR2.out.fifteen
  obtain ⟨c0, c1, c2, c3, c4, c5, c6, c7, c8, c9, c10, c11, c12, c13, c14, c15, c16, c17, c18, c19, c20, c21, c22, c23, c24, c25⟩ := hK.out.cells
  have f24 := hK.out.2 24
  have z0 := KR2.out.1
  have zb := hK.out.1.1
  rw [hfn.out] at c21
  clear c0 c1 c2 c3 c4 c5 c6 c7 c8 c9 c10 c11 c12 c13 c14 c15 c16 c17 c18 c19 c23 c25
  by_cases hl : LA < i
  ·have hr := Lib.hid (show walk (pS s x y bud once) = some (used, m) by rw [← hrun.out]; exact runF_over (by rw [hLA.out]; exact hl))
   as_aux_lemma =>
   go_wp2
   (try rw [Exit.noGoto_ret])
   go_ret
   exact givesRun hr.out Bo.out hK.out hO.out
  ·have FSi := FS.out i
   have hbo := Lib.hid (fun h => runF_out (p := (pS s x y bud once)) (left := left) (used := used) (m := m) (by rw [hLA.out]; exact hl) h)
   have hsp := Lib.hid (fun h1 h2 => runF_spent (p := (pS s x y bud once)) (left := left) (used := used) (m := m) (by rw [hLA.out]; exact hl) h1 h2)
   have hso := Lib.hid (fun h1 h2 q h3 => @runF_stop (pS s x y bud once) i left used m (by rw [hLA.out]; exact hl) h1 h2 q h3)
   have hne := Lib.hid (fun h1 h2 q h3 => @runF_next (pS s x y bud once) hk1.out i left used m (by rw [hLA.out]; exact hl) h1 h2 q h3)
   have hIn := hin.out.resolve_left (by rw [hLA.out]; exact hl)
   have hi2 := (idx_small hF2.out hIn).2
   have hin2 := Lib.hid (next_or hF2.out hIn)
   change Hid ((pS s x y bud once).b ≤ fr s.rule i ∨ (pS s x y bud once).fin < fr s.rule i → _) at hbo
   change Hid (¬ (y ≤ fr s.rule i ∨ finS s < fr s.rule i) → bud < used + costE s.rule s.sec i → _) at hsp
   change Hid (¬ (y ≤ fr s.rule i ∨ finS s < fr s.rule i) → ¬ bud < used + costE s.rule s.sec i → ∀ q, inner (pS s x y bud once) (ofE s.rule s.sec i) left m = (true, q) → runF (pS s x y bud once) i left used m = some (used + costE s.rule s.sec i, q.2)) at hso
   change Hid (¬ (y ≤ fr s.rule i ∨ finS s < fr s.rule i) → ¬ bud < used + costE s.rule s.sec i → ∀ q, inner (pS s x y bud once) (ofE s.rule s.sec i) left m = (false, q) → runF (pS s x y bud once) i left used m = runF (pS s x y bud once) (i + s.rule.interval) q.1 (used + costE s.rule s.sec i) q.2) at hne
   rw [hfn.out] at hsp hso hne
   replace hbo := Lib.hid (show y ≤ fr s.rule i ∨ fin < fr s.rule i → walk (pS s x y bud once) = some (used, m) from fun h => hrun.out.symm.trans (hbo.out (by rw [← hfn.out] at h; exact h)))
   generalize fr s.rule i = F at *
   generalize tt s.rule i = F2 at *
   replace FSi := Lib.hid FSi
   clear hin
   by_cases hb : y ≤ F
   ·have hr := Lib.hid (hbo.out (.inl hb))
    clear hsp hso hne hbo
    as_aux_lemma =>
    go_wp2_with (first
     | (go_at_call 68; (with_reducible refine (FSi.out _ Bo.out).mono ?_); rintro e w3 ⟨rfl, rfl⟩))
    (try rw [Exit.noGoto_ret])
    go_ret
    exact givesRun hr.out Bo.out hK.out hO.out
   ·by_cases hb2 : fin < F
    ·have hr := Lib.hid (hbo.out (.inr hb2))
     clear hsp hso hne hbo
     as_aux_lemma =>
     go_wp2_with (first
      | (go_at_call 68; (with_reducible refine (FSi.out _ Bo.out).mono ?_); rintro e w3 ⟨rfl, rfl⟩))
     (try rw [Exit.noGoto_ret])
     go_ret
     exact givesRun hr.out Bo.out hK.out hO.out
    ·have hnb : ¬ (y ≤ F ∨ fin < F) := fun h => h.elim hb hb2
     replace hsp := Lib.hid (fun h => hrun.out.symm.trans (hsp.out hnb h))
     replace hso := Lib.hid (fun h q h3 => hrun.out.symm.trans (hso.out hnb h q h3))
     replace hne := Lib.hid (fun h q h3 => (hne.out hnb h q h3).symm.trans hrun.out)
     have FCi := FC.out i
     have FOi := FO.out i
     have hoc := ofE_cost s.rule s.sec i
     have hc1 := cost_bd s.rule s.sec i
     have hc0 := costE_nn s.rule s.sec i
     clear hbo hnb hrun
     generalize costE s.rule s.sec i = cst at *
     generalize ofE s.rule s.sec i = ls at *
     replace FCi := Lib.hid FCi
     replace FOi := Lib.hid FOi
     as_aux_lemma =>
     go_upto_region 11 with (first
      | (go_at_call 68; (with_reducible refine (FSi.out _ Bo.out).mono ?_); rintro e w3 ⟨rfl, rfl⟩))
     go_cut [5] (fun cc wx => cc = .int .i64 i ∧ Hid (WK wx b s a c x y bud once (used + cst) v) ∧ Hid (OwnI wx (b + 1) v m) ∧ Hid (Asd (some b) wo v wx v))
     case first =>
      have CA := Lib.hid (fun W2 (h : Below wo.heap.size wo W2) => (show W2.cell? ⟨b, 24, none⟩ = some (.int .i64 used) ∧ W2.frozen? ⟨b, 24, none⟩ = false ∧ b < W2.heap.size from ⟨(h.cell (p := ⟨b, 24, none⟩) zb).trans c24, (h.frozen (p := ⟨b, 24, none⟩) zb).trans f24, Nat.lt_of_lt_of_le zb h.size⟩))
      have EN := Lib.hid (fun W2 n (h : Below wo.heap.size wo W2) (hn : n = used + cst) => (show Hid (WK (W2.setCell ⟨b, 24, none⟩ (.int .i64 n)) b s a c x y bud once (used + cst) v) ∧ Hid (OwnI (W2.setCell ⟨b, 24, none⟩ (.int .i64 n)) (b + 1) v m) ∧ Hid (Asd (some b) wo v (W2.setCell ⟨b, 24, none⟩ (.int .i64 n)) v) by
       subst hn
       exact ⟨Lib.hid ((hK.out.later h zb).steps (used + cst)), Lib.hid (own_moved (hO.out.below h)), Lib.hid (((Asd.refl (some b) wo v).quiet h).store 24 _)⟩))
      go_region_with (go_at_call 12; (with_reducible refine (FCi.out _ (Below.drew Bo.out)).mono ?_); rintro e w4 ⟨rfl, hB4⟩; obtain ⟨e24, g24, h24⟩ := CA.out w4 (nb1 hB4))
      all_goals
       go_wp2
       go_meet
       exact ⟨rfl, EN.out _ _ (nb1 hB4) (IntWalk.i64_in _ (by omega))⟩
     case rest =>
     obtain ⟨rfl, hKx, hOx, hAx⟩ := hcut
     have AX := Lib.hid (hA.out.trans hAx.out)
     have BcX := Lib.hid (AX.out.belowNil (B := b) (fun k e => by cases e; exact Nat.le_refl _) (Nat.le_of_lt hbw))
     have BX := Lib.hid (Bw1.out.trans BcX.out)
     have KRX := Lib.hid (KR.out.aside AX.out hbn (fun e => by cases e))
     clear r0 r1 r2 r3 r4 r5 r6 r7 r8 r9 r10 r11 r12 r13 r14 c20 c21 c22 c24 f24 z0 zb
     obtain ⟨r0, r1, r2, r3, r4, r5, r6, r7, r8, r9, r10, r11, r12, r13, r14⟩ := KRX.out.fifteen
     obtain ⟨c0, c1, c2, c3, c4, c5, c6, c7, c8, c9, c10, c11, c12, c13, c14, c15, c16, c17, c18, c19, c20, c21, c22, c23, c24, c25⟩ := hKx.out.cells
     have z0 := KRX.out.1
     have zb := hKx.out.1.1
     rw [hfn.out] at c21
     clear c0 c1 c2 c3 c4 c5 c6 c7 c8 c9 c10 c11 c12 c13 c14 c15 c16 c17 c18 c19 c23 c25
     as_aux_lemma =>
     go_upto_region 12 with fail
     go_region
     by_cases hs : bud < used + cst
     ·have hr := Lib.hid (hsp.out hs)
      clear hsp hso hne
      as_aux_lemma =>
      go_wp2
      (try rw [Exit.noGoto_ret])
      go_ret
      exact givesRun_none hr.out BX.out.drew
     ·replace hso := Lib.hid (hso.out (by omega))
      replace hne := Lib.hid (hne.out (by omega))
      clear hsp
      have BD := Lib.hid BX.out.drew
      have KRD := Lib.hid (show Blk (wc.drew) W.heap.size #[.int .u8 s.rule.freq, .int .i64 s.rule.interval, .int .i64 s.rule.count, .int .u8 s.rule.uk, .int .i64 s.rule.us, .slice (a 4) s.rule.sec.length (c 4), .slice (a 5) s.rule.min.length (c 5), .slice (a 6) s.rule.hour.length (c 6), .slice (a 7) s.rule.day.length (c 7), .slice (a 8) s.rule.mday.length (c 8), .slice (a 9) s.rule.yday.length (c 9), .slice (a 10) s.rule.weekno.length (c 10), .slice (a 11) s.rule.month.length (c 11), .slice (a 12) s.rule.setpos.length (c 12), .int .i64 s.rule.wkst] from KRX.out)
      have AD := Lib.hid (show Asd (some b) w1 (.slice none 0 0) (wc.drew) v from AX.out.quiet (Below.refl _ _).drew)
      have KD := Lib.hid (show WK (wc.drew) b s a c x y bud once (used + cst) v from hKx.out)
      have OD := Lib.hid (show OwnI (wc.drew) (b + 1) v m from hOx.out)
      generalize wc.drew = wd at *
      clear r0 r1 r2 r3 r4 r5 r6 r7 r8 r9 r10 r11 r12 r13 r14 z0
      obtain ⟨r0, r1, r2, r3, r4, r5, r6, r7, r8, r9, r10, r11, r12, r13, r14⟩ := KRD.out.fifteen
      have z0 := KRD.out.1
      as_aux_lemma =>
      go_wp2_with (first
       | (go_at_call 17; (with_reducible refine (FOi.out _ BD.out).mono ?_); rintro e w5 ⟨v5, rfl, hO5, hB5⟩; obtain ⟨a5, g5, hv5⟩ := hO5.slice; subst hv5; clear r0 r1 r2 r3 r4 r5 r6 r7 r8 r9 r10 r11 r12 r13 r14; obtain ⟨r0, r1, r2, r3, r4, r5, r6, r7, r8, r9, r10, r11, r12, r13, r14⟩ := (KRD.out.later hB5 KRD.out.1).fifteen; have z5 := Nat.lt_of_lt_of_le KRD.out.1 hB5.size))
      have A5 := Lib.hid (AD.out.quiet hB5)
      have O5 := Lib.hid (OD.out.below hB5)
      have K5 := Lib.hid (KD.out.later hB5 KD.out.1.1)
      obtain ⟨g, hg⟩ : ∃ g, ∀ k, k < ls.length → a5 = some ⟨g, 0, none⟩ := by
       by_cases h0 : 0 < ls.length
       ·obtain ⟨g, e, -⟩ := own_at hO5 (Below.refl _ _) h0
        exact ⟨g, fun _ _ => e⟩
       ·exact ⟨0, fun k hk => absurd hk (by omega)⟩
      have HL := Lib.hid (fun wr u (h : Asd (some b) w5 v wr u) k (hk : k < ls.length) => h.at hO5 (fun k e => by cases e; exact KD.out.1.1) (fun k e => (ownI_block OD.out k e).2) hk)
      replace hg := Lib.hid hg
      have hbw5 := K5.out.1.1
      clear hO5 hB5 r0 r1 r2 r3 r4 r5 r6 r7 r8 r9 r10 r11 r12 r13 r14 c20 c21 c22 c24 z0 zb z5
      go_loopw [7, 93] (fun vl vk wr => ∃ (k : Nat) (left2 : Int) (v2 : Value) (m2 : List Int), vk = .int .i64 k ∧ k ≤ ls.length ∧ vl = .int .i64 left2 ∧ left2 ≤ left ∧ left - k ≤ left2 ∧ Hid ((m2.length : Int) ≤ used + k) ∧ Hid (WK wr b s a c x y bud once (used + cst) v2) ∧ Hid (OwnI wr (b + 1) v2 m2) ∧ Hid (Asd (some b) w5 v wr v2) ∧ Hid (inner (pS s x y bud once) (ls.drop k) left2 m2 = inner (pS s x y bud once) ls left m)) (fun _ vk _ => ls.length - (intOf vk).toNat)
      case atStart => exact ⟨0, left, v, m, rfl, Nat.zero_le _, rfl, Int.le_refl _, by omega, Lib.hid (by have := hml.out; omega), K5, O5, Lib.hid (Asd.refl _ _ _), Lib.hid (by rw [List.drop_zero])⟩
      case round =>
       as_aux_lemma =>
       obtain ⟨k, left2, v2, m2, rfl, hk, rfl, hn2, hn3, hml2, hK2, hO2, hA2, hstp⟩ := hrel
       have A2 := Lib.hid (A5.out.trans hA2.out)
       have BcI := Lib.hid (A2.out.belowNil (B := b) (fun k e => by cases e; exact Nat.le_refl _) (Nat.le_of_lt hbw))
       have BwI := Lib.hid (Bw1.out.trans BcI.out)
       have KRI := Lib.hid (KR.out.aside A2.out hbn (fun e => by cases e))
       by_cases hkl : k < ls.length
       ·have ha5 := hg.out k hkl
        have AT := HL.out wr _ hA2.out k hkl
        rw [ha5] at AT
        subst ha5
        obtain ⟨zl, cl, capl⟩ := at_same AT
        have hdrop := List.drop_eq_getElem_cons hkl
        generalize ls[k] = t at *
        have hst := hstp.out
        rw [hdrop] at hst
        clear hdrop hstp AT
        obtain ⟨c0, c1, c2, c3, c4, c5, c6, c7, c8, c9, c10, c11, c12, c13, c14, c15, c16, c17, c18, c19, c20, c21, c22, c23, c24, c25⟩ := hK2.out.cells
        have zb := hK2.out.1.1
        rw [hfn.out] at c21
        clear c0 c1 c2 c3 c4 c5 c6 c7 c8 c9 c10 c11 c12 c13 c14 c15 c16 c17 c18 c19 c20 c22 c23 c24 c25
        by_cases d1 : t < s.sec
        ·have hnx := Lib.hid (in_ahead (p := (pS s x y bud once)) hst d1)
         have hml3 := Lib.hid (show (m2.length : Int) ≤ used + ((k + 1 : Nat) : Int) by have := hml2.out; omega)
         clear hst
         as_aux_lemma =>
         go_wp2
         go_roundw
         case rel => exact ⟨k + 1, left2, v2, m2, by go_num, by omega, rfl, hn2, by omega, hml3, hK2, hO2, hA2, hnx⟩
         case measure => simp [intOf]; omega
        ·by_cases d2 : fin < t
         ·have hr := Lib.hid (hso.out _ (in_over (p := (pS s x y bud once)) hst d1 (by show finS s < t; rw [hfn.out]; exact d2)))
          clear hst
          as_aux_lemma =>
          go_wp2
          (try rw [Exit.noGoto_ret])
          go_ret
          exact givesRun hr.out BwI.out hK2.out hO2.out
         ·have c3 : ¬ (pS s x y bud once).fin < t := by show ¬ finS s < t; rw [hfn.out]; exact d2
          have hEnd := fun h3 => hso.out _ (in_end (p := (pS s x y bud once)) hst d1 c3 h3)
          have hst0 : inner (pS s x y bud once) (t :: ls.drop (k + 1)) (left2 - 0) m2 = inner (pS s x y bud once) ls left m := by rw [Int.sub_zero]; exact hst
          have hOn := fun h3 => in_on (p := (pS s x y bud once)) (c := left2) (n := 0) hst0 d1 c3 h3
          clear hst0
          have FMt := FM.out t wr (used + cst) v2 m2 BwI.out hK2.out hO2.out (by have := hml2.out; omega)
          unfold GivesM at FMt
          have hadd := add_le (pS s x y bud once) t m2
          generalize ends (pS s x y bud once) t = d at *
          generalize add (pS s x y bud once) t m2 = m3 at *
          have hml3 := Lib.hid (show (m3.length : Int) ≤ used + ((k + 1 : Nat) : Int) by have := hml2.out; omega)
          replace hEnd := Lib.hid hEnd
          replace hOn := Lib.hid hOn
          replace FMt := Lib.hid FMt
          clear hst c3 hadd
          cases d
          ·by_cases hq : left2 - 1 = 0
           ·have hr := Lib.hid (hEnd.out (or_right hq))
            have hq2 : ((left2 - 1) == 0) = true := by rw [beq_iff_eq]; omega
            clear hEnd hOn hq
            as_aux_lemma =>
            go_wp2_with (first
             | (go_at_call 91; (with_reducible refine FMt.out.mono ?_); rintro e w6 ⟨rfl, v6, hK6, hO6, hA6⟩; replace hK6 := Lib.hid hK6; replace hO6 := Lib.hid hO6; have A6 := Lib.hid (hA2.out.trans hA6); have B6 := Lib.hid (Bw1.out.trans ((A5.out.trans A6.out).belowNil (B := b) (fun k e => by cases e; exact Nat.le_refl _) (Nat.le_of_lt hbw))); clear hA6))
            (try rw [Exit.noGoto_ret])
            go_ret
            exact givesRun hr.out B6.out hK6.out hO6.out
           ·have hnx := Lib.hid (hOn.out (or_no rfl (by rw [Int.sub_zero]; exact hq)))
            have hq2 : ((left2 - 1) == 0) = false := by rw [beq_eq_false_iff_ne]; omega
            rw [Int.zero_add] at hnx
            replace hq := Lib.hid hq
            clear hEnd hOn
            as_aux_lemma =>
            go_wp2_with (first
             | (go_at_call 91; (with_reducible refine FMt.out.mono ?_); rintro e w6 ⟨rfl, v6, hK6, hO6, hA6⟩; replace hK6 := Lib.hid hK6; replace hO6 := Lib.hid hO6; have A6 := Lib.hid (hA2.out.trans hA6); have B6 := Lib.hid (Bw1.out.trans ((A5.out.trans A6.out).belowNil (B := b) (fun k e => by cases e; exact Nat.le_refl _) (Nat.le_of_lt hbw))); clear hA6))
            go_roundw
            case rel => exact ⟨k + 1, left2 - 1, v6, m3, by go_num, by omega, rfl, by omega, by omega, hml3, hK6, hO6, A6, hnx⟩
            case measure => simp [intOf]; omega
          ·have hr := Lib.hid (hEnd.out (or_left rfl))
           clear hEnd hOn
           as_aux_lemma =>
           go_wp2_with (first
            | (go_at_call 91; (with_reducible refine FMt.out.mono ?_); rintro e w6 ⟨rfl, v6, hK6, hO6, hA6⟩; replace hK6 := Lib.hid hK6; replace hO6 := Lib.hid hO6; have A6 := Lib.hid (hA2.out.trans hA6); have B6 := Lib.hid (Bw1.out.trans ((A5.out.trans A6.out).belowNil (B := b) (fun k e => by cases e; exact Nat.le_refl _) (Nat.le_of_lt hbw))); clear hA6))
           (try rw [Exit.noGoto_ret])
           go_ret
           exact givesRun hr.out B6.out hK6.out hO6.out
       ·have hfl : inner (pS s x y bud once) ls left m = (false, left2, m2) := by
         rw [← hstp.out, List.drop_of_length_le (by omega), inner_nil]
        have hnx := Lib.hid (hne.out _ hfl)
        have hml3 := Lib.hid (show (m2.length : Int) ≤ used + cst by have := hml2.out; omega)
        obtain ⟨r0, r1, r2, r3, r4, r5, r6, r7, r8, r9, r10, r11, r12, r13, r14⟩ := KRI.out.fifteen
        have z0 := KRI.out.1
        clear hfl hso hne
        as_aux_lemma =>
        go_wp2
        go_roundw
        case rel => exact ⟨i + s.rule.interval, left2, used + cst, v2, m2, by go_num, rfl, by omega, by omega, by omega, by omega, by omega, by omega, hin2, hml3, hK2, hO2, A2, hnx⟩
        case measure => simp [intOf]; omega
theorem run_any {W : World} {b : Nat} (s : St) (a : Nat → Option Addr) (c : Nat → Nat) (x y bud : Int) (once : Bool) (hT : ∀ W2, Below b W W2 → Tab W2) (hK : WK W b s a c x y bud once 0 (.slice none 0 0)) (hL : ∀ W2, Below b W W2 → LS W2 s (svQ s.rule a c) (.slice (a 13) s.inn.length (c 13)) (.slice (a 14) s.out.length (c 14))) (hW : WS s) (hc : chkS s = 0) (hb0 : 0 ≤ bud) (hb1 : bud ≤ 4000) :
  Calls Tryz.prog 49 #[.pointer (some ⟨b, 0, none⟩)] W (GivesRun W b s a c x y bud once (walk (pS s x y bud once))) := by
 cases hbg : begin (pS s x y bud once) with
 | none => exact run_none s a c x y bud once hT hK hW hc hbg
 | some i0 => exact run_some s a c x y bud once hT hK hL hW hc hb0 hb1 i0 hbg
end Go.Proofs.YtkbohijlhhpfbaaGreatDoor.Rs

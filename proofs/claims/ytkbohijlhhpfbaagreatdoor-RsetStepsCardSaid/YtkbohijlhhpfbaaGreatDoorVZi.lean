import Derived.Test.YtkbohijlhhpfbaaGreatDoorVYv
import Derived.Test.YtkbohijlhhpfbaaGreatDoorVYy8
import Derived.Test.YtkbohijlhhpfbaaGreatDoorVZk
/- The walks through errandref26's Window and Has (printed by gen_rwin.py). -/
namespace Go.Proofs.YtkbohijlhhpfbaaGreatDoor.Rs
open Go.RowKit Ru Ut Cw Ra Xp
theorem rwalk_any (w : World) (s : St) (a : Nat → Option Addr) (c : Nat → Nat) (x y bud : Int) (once : Bool) (hL : LS w s (svQ s.rule a c) (.slice (a 13) s.inn.length (c 13)) (.slice (a 14) s.out.length (c 14))) (hW : WS s) (hc : chkS s = 0) (hb0 : 0 ≤ bud) (hb1 : bud ≤ 4000) :
  Calls Tryz.prog 54 #[.agg (setQ s a c), .int .i64 x, .int .i64 y, .int .i64 bud, .bool once] w (Gives3 w (outW (walk (pS s x y bud once)))) := by
 cases hbg : begin (pS s x y bud once) with
 | none => exact rwalk_none w s a c x y bud once hL hW hc hbg
 | some i0 => exact rwalk_some w s a c x y bud once hL hW hc hb0 hb1 i0 hbg
theorem metW {s : St} {x y bud : Int} {once : Bool} {u : Int} {m : List Int} (f0 : 0 ≤ s.rule.freq) (hc : chkS s = 0) (hx : 0 ≤ x) (h : walk (pS s x y bud once) = some (u, m)) : m.Pairwise (· < ·) := by
 rw [walk_eq (fineS f0 hc x y bud once) hx h]
 exact met_rise (rul_rise (fineS f0 hc x y bud once))
theorem run_len {p : P} : ∀ (n : Nat) (i left used : Int) (m : List Int) (last : Int) (u : Int) (l : List Int), (m.length : Int) ≤ used → 0 ≤ used → used ≤ p.budget → run p last n i left used m = some (u, l) → (l.length : Int) ≤ u ∧ u ≤ p.budget ∧ 0 ≤ u
 | 0, i, left, used, m, last, u, l, h1, h0, h2, h => by rw [run] at h; cases h; exact ⟨h1, h2, h0⟩
 | n + 1, i, left, used, m, last, u, l, h1, h0, h2, h => by
  rw [run] at h
  by_cases c1 : last < i
  ·rw [if_pos c1] at h; cases h; exact ⟨h1, h2, h0⟩
  rw [if_neg c1] at h
  by_cases c2 : p.b ≤ fr p.r i ∨ p.fin < fr p.r i
  ·rw [if_pos c2] at h; cases h; exact ⟨h1, h2, h0⟩
  rw [if_neg c2] at h
  by_cases c3 : p.budget < used + costE p.r p.start i
  ·rw [if_pos c3] at h; cases h
  rw [if_neg c3] at h
  have hi : ∀ (L : List Int) (left : Int) (m : List Int), (inner p L left m).2.2.length ≤ m.length + L.length := by
   intro L
   induction L with
   | nil => intro left m; rw [inner]; simp
   | cons t L ih =>
    intro left m
    rw [inner]
    split
    ·have := ih left m; rw [List.length_cons]; omega
    ·split
     ·show m.length ≤ _; omega
     ·split
      ·show (add p t m).length ≤ _
       have := add_le p t m; rw [List.length_cons]; omega
      ·have := ih (left - 1) (add p t m)
       have := add_le p t m; rw [List.length_cons]; omega
  have hi2 := hi (ofE p.r p.start i) left m
  have hoc := ofE_cost p.r p.start i
  have hcn := costE_nn p.r p.start i
  simp only at h
  by_cases c4 : (inner p (ofE p.r p.start i) left m).1 = true
  ·rw [if_pos c4] at h; cases h; exact ⟨by omega, by omega, by omega⟩
  ·rw [if_neg c4] at h
   exact run_len n _ _ _ _ last u l (by omega) (by omega) (by omega) h
theorem walk_len {s : St} {x y bud : Int} {once : Bool} {u : Int} {m : List Int} (hb0 : 0 ≤ bud) (h : walk (pS s x y bud once) = some (u, m)) : (m.length : Int) ≤ u ∧ u ≤ bud ∧ 0 ≤ u := by
 cases hb : begin (pS s x y bud once) with
 | none => rw [walk_none hb] at h; cases h; exact ⟨by simp, hb0, Int.le_refl _⟩
 | some i0 =>
  rw [walk_some hb] at h
  exact run_len (p := pS s x y bud once) _ _ _ _ _ _ _ _ (by simp) (Int.le_refl _) hb0 h
theorem insR_len (l : List Int) (t : Int) : (insR l t).length ≤ l.length + 1 := by
 unfold insR
 split
 ·omega
 ·have h := List.takeWhile_append_dropWhile (p := fun x => decide (x ≤ t)) (l := l)
  have h2 := congrArg List.length h
  rw [List.length_append] at h2
  rw [List.length_append, List.length_cons]; omega
theorem fold_snoc (x y : Int) (m : List Int) {l : List (Int × Int)} {k : Nat} (hk : k < l.length) : (within x y (secs (l.take (k + 1)))).foldl insR m = if x ≤ l[k].2 ∧ l[k].2 < y then insR ((within x y (secs (l.take k))).foldl insR m) l[k].2 else (within x y (secs (l.take k))).foldl insR m := by
 rw [secs_snoc hk]
 unfold within
 rw [List.filter_append, List.foldl_append]
 by_cases h : x ≤ l[k].2 ∧ l[k].2 < y
 ·rw [if_pos h, List.filter_cons_of_pos (by simpa using h)]; rfl
 ·rw [if_neg h, List.filter_cons_of_neg (by simpa using h)]; rfl
theorem fold_len (x y : Int) (m : List Int) (l : List (Int × Int)) : ((within x y (secs l)).foldl insR m).length ≤ m.length + l.length := by
 have h : ∀ (ts l : List Int), (ts.foldl insR l).length ≤ l.length + ts.length := by
  intro ts
  induction ts with
  | nil => intro l; simp
  | cons t ts ih =>
   intro l
   rw [List.foldl_cons]
   have := ih (insR l t); have := insR_len l t; rw [List.length_cons]; omega
 have h2 := h (within x y (secs l)) m
 have h3 : (within x y (secs l)).length ≤ l.length := by
  unfold within
  refine Nat.le_trans (List.length_filter_le _ _) ?_
  rw [secs_length]; exact Nat.le_refl _
 omega
theorem keep_snoc (outs : List Int) {l : List Int} {k : Nat} (hk : k < l.length) : (l.take (k + 1)).filter (fun t => !decide (t ∈ outs)) = if l[k] ∈ outs then (l.take k).filter (fun t => !decide (t ∈ outs)) else (l.take k).filter (fun t => !decide (t ∈ outs)) ++ [l[k]] := by
 rw [List.take_succ_eq_append_getElem hk, List.filter_append]
 by_cases h : l[k] ∈ outs <;> simp [h]
theorem gives3_of {w W : World} {B : Nat} {v : Value} {o : List Int × Int × Int} {u e : Int} {m : List Int} (hO : OwnI W B v m) (h : o = (m, u, e)) (hb : w.heap.size ≤ B) (hB : Below w.heap.size w W) : Gives3 w o (.returned (.tuple #[v, .int .i64 u, .int .i64 e])) W := by
 subst h; exact ⟨_, rfl, hO.base hb, hB⟩
theorem sizeRSet : (Tryz.prog.info? 43).map (·.size) = some 19 := by kernel_rfl
theorem undRSet : ∃ d, Tryz.prog.underlying 43 = some d ∧ d.isRow = true := ⟨_, Tryz.underlying43, rfl⟩
set_option maxHeartbeats 8000000 in
set_option maxRecDepth 100000 in
theorem rwin_err (w : World) (s : St) (SV : Array Value) (ai ao : Option Addr) (ci co : Nat) (x y bud : Int) (hsz : SV.size = 19) (h17 : SV[17]? = some (.slice ai s.inn.length ci)) (h18 : SV[18]? = some (.slice ao s.out.length co))
  (FC : ∀ W, Below w.heap.size w W → Calls Tryz.prog 27 #[.agg SV] W fun e w' => e = .returned (.int .i64 (chkS s)) ∧ Below W.heap.size W w') (hc : chkS s ≠ 0) :
  Calls Tryz.prog 23 #[.agg SV, .int .i64 x, .int .i64 y, .int .i64 bud] w (Gives3 w (winF s x y bud)) := by
 obtain ⟨dS, uS, rS⟩ := undRSet
 have sS : (Tryz.prog.info? 43).map (·.size) = some SV.size := by rw [hsz]; exact sizeRSet
 have BK : ∀ W, Below (w.alloc (.cells SV 43)).heap.size (w.alloc (.cells SV 43)) W → Blk W w.heap.size SV := fun W h => Blk.mk h
 replace uS := Lib.hid uS
 replace rS := Lib.hid rS
 replace sS := Lib.hid sS
 replace BK := Lib.hid BK
 have hs17 := Lib.hid h17
 have hs18 := Lib.hid h18
 clear h17 h18
 have hr := Lib.hid (show winF s x y bud = ([], 0, chkS s) by unfold winF; rw [if_pos hc])
 have hq : (chkS s != 0) = true := by simp [hc]
 replace FC := Lib.hid FC
 clear hc hsz
 go_enter Tryz.func23, Tryz.ntmps23
 go_wp2_with (first
  | (refine wpList_load_arr rfl 43 _ rfl w.heap.size 0 rfl SV dS (Blk.range (BK.out _ (by first | exact Below.refl _ _ | assumption | exact hB1.out))) uS.out rS.out sS.out ?_)
  | (go_at_call 27; (with_reducible refine (FC.out _ (Below.next_alloc (Below.refl _ w) _)).mono ?_); rintro e w1 ⟨rfl, hB1⟩; have K1 := Lib.hid (BK.out w1 hB1); have B1 := Lib.hid (Below.next (Below.next_alloc (Below.refl _ w) _) hB1); replace hB1 := Lib.hid hB1; have h17 := K1.out.2 17 _ hs17.out; have h18 := K1.out.2 18 _ hs18.out; have z1 := K1.out.1))
 go_ret3
 exact gives3_of (OwnI.nil _ _) hr.out (Nat.le_refl _) B1.out
set_option maxHeartbeats 8000000 in
set_option maxRecDepth 100000 in
theorem rwin_bad (w : World) (s : St) (SV : Array Value) (ai ao : Option Addr) (ci co : Nat) (x y bud : Int) (hsz : SV.size = 19) (h17 : SV[17]? = some (.slice ai s.inn.length ci)) (h18 : SV[18]? = some (.slice ao s.out.length co))
  (FC : ∀ W, Below w.heap.size w W → Calls Tryz.prog 27 #[.agg SV] W fun e w' => e = .returned (.int .i64 (chkS s)) ∧ Below W.heap.size W w') (hc : chkS s = 0) (hb : badW x y bud) :
  Calls Tryz.prog 23 #[.agg SV, .int .i64 x, .int .i64 y, .int .i64 bud] w (Gives3 w (winF s x y bud)) := by
 obtain ⟨dS, uS, rS⟩ := undRSet
 have sS : (Tryz.prog.info? 43).map (·.size) = some SV.size := by rw [hsz]; exact sizeRSet
 have BK : ∀ W, Below (w.alloc (.cells SV 43)).heap.size (w.alloc (.cells SV 43)) W → Blk W w.heap.size SV := fun W h => Blk.mk h
 replace uS := Lib.hid uS
 replace rS := Lib.hid rS
 replace sS := Lib.hid sS
 replace BK := Lib.hid BK
 have hs17 := Lib.hid h17
 have hs18 := Lib.hid h18
 clear h17 h18
 have hr := Lib.hid (show winF s x y bud = ([], 0, 8) by unfold winF; rw [if_neg (by simp [hc]), if_pos hb])
 rw [hc] at FC
 replace FC := Lib.hid FC
 have h2 : x < 0 ∨ (0 ≤ x ∧ y < x) ∨ (0 ≤ x ∧ ¬ y < x ∧ 315537897600 < y) ∨ (0 ≤ x ∧ ¬ y < x ∧ ¬ 315537897600 < y ∧ bud < 0) ∨ (0 ≤ x ∧ ¬ y < x ∧ ¬ 315537897600 < y ∧ ¬ bud < 0 ∧ 4000 < bud) := by unfold badW at hb; omega
 clear hc hsz hb
 rcases h2 with h2 | ⟨h2, h3⟩ | ⟨h2, h3, h4⟩ | ⟨h2, h3, h4, h5⟩ | ⟨h2, h3, h4, h5, h6⟩
 all_goals
  as_aux_lemma =>
  go_enter Tryz.func23, Tryz.ntmps23
  go_wp2_with (first
   | (refine wpList_load_arr rfl 43 _ rfl w.heap.size 0 rfl SV dS (Blk.range (BK.out _ (by first | exact Below.refl _ _ | assumption | exact hB1.out))) uS.out rS.out sS.out ?_)
   | (go_at_call 27; (with_reducible refine (FC.out _ (Below.next_alloc (Below.refl _ w) _)).mono ?_); rintro e w1 ⟨rfl, hB1⟩; have K1 := Lib.hid (BK.out w1 hB1); have B1 := Lib.hid (Below.next (Below.next_alloc (Below.refl _ w) _) hB1); replace hB1 := Lib.hid hB1; have h17 := K1.out.2 17 _ hs17.out; have h18 := K1.out.2 18 _ hs18.out; have z1 := K1.out.1))
  go_ret3
  exact gives3_of (OwnI.nil _ _) hr.out (Nat.le_refl _) B1.out
set_option maxHeartbeats 8000000 in
set_option maxRecDepth 100000 in
theorem rwin_spent (w : World) (s : St) (SV : Array Value) (ai ao : Option Addr) (ci co : Nat) (x y bud : Int) (hsz : SV.size = 19) (h17 : SV[17]? = some (.slice ai s.inn.length ci)) (h18 : SV[18]? = some (.slice ao s.out.length co))
  (FC : ∀ W, Below w.heap.size w W → Calls Tryz.prog 27 #[.agg SV] W fun e w' => e = .returned (.int .i64 (chkS s)) ∧ Below W.heap.size W w') (FW : ∀ W, Below w.heap.size w W → Calls Tryz.prog 54 #[.agg SV, .int .i64 x, .int .i64 y, .int .i64 bud, .bool false] W (Gives3 W (outW (walk (pS s x y bud false))))) (hc : chkS s = 0) (hb : ¬ badW x y bud) (hw : walk (pS s x y bud false) = none) :
  Calls Tryz.prog 23 #[.agg SV, .int .i64 x, .int .i64 y, .int .i64 bud] w (Gives3 w (winF s x y bud)) := by
 obtain ⟨dS, uS, rS⟩ := undRSet
 have sS : (Tryz.prog.info? 43).map (·.size) = some SV.size := by rw [hsz]; exact sizeRSet
 have BK : ∀ W, Below (w.alloc (.cells SV 43)).heap.size (w.alloc (.cells SV 43)) W → Blk W w.heap.size SV := fun W h => Blk.mk h
 replace uS := Lib.hid uS
 replace rS := Lib.hid rS
 replace sS := Lib.hid sS
 replace BK := Lib.hid BK
 have hs17 := Lib.hid h17
 have hs18 := Lib.hid h18
 clear h17 h18
 have hr := Lib.hid (show winF s x y bud = ([], 0, 13) by unfold winF; rw [if_neg (by simp [hc]), if_neg hb, hw])
 rw [hc] at FC
 rw [hw] at FW
 replace FW : ∀ W, Below w.heap.size w W → Calls Tryz.prog 54 #[.agg SV, .int .i64 x, .int .i64 y, .int .i64 bud, .bool false] W fun e w' => ∃ v, e = .returned (.tuple #[v, .int .i64 0, .int .i64 13]) ∧ OwnI w' W.heap.size v [] ∧ Below W.heap.size W w' := FW
 replace FC := Lib.hid FC
 replace FW := Lib.hid FW
 have h2 : 0 ≤ x ∧ ¬ y < x ∧ ¬ 315537897600 < y ∧ ¬ bud < 0 ∧ ¬ 4000 < bud := by unfold badW at hb; omega
 obtain ⟨h2, h3, h4, h5, h6⟩ := h2
 clear hc hsz hb hw
 go_enter Tryz.func23, Tryz.ntmps23
 go_wp2_with (first
  | (refine wpList_load_arr rfl 43 _ rfl w.heap.size 0 rfl SV dS (Blk.range (BK.out _ (by first | exact Below.refl _ _ | assumption | exact hB1.out))) uS.out rS.out sS.out ?_)
  | (go_at_call 27; (with_reducible refine (FC.out _ (Below.next_alloc (Below.refl _ w) _)).mono ?_); rintro e w1 ⟨rfl, hB1⟩; have K1 := Lib.hid (BK.out w1 hB1); have B1 := Lib.hid (Below.next (Below.next_alloc (Below.refl _ w) _) hB1); replace hB1 := Lib.hid hB1; have h17 := K1.out.2 17 _ hs17.out; have h18 := K1.out.2 18 _ hs18.out; have z1 := K1.out.1)
  | (go_at_call 54; (with_reducible refine (FW.out _ B1.out).mono ?_); rintro e w2 ⟨v2, rfl, hO2, hB2⟩; have bz := hB2.size; obtain ⟨a2, g2, hv2⟩ := hO2.slice; subst hv2; replace hO2 := Lib.hid hO2; have K2 := Lib.hid (K1.out.later hB2 K1.out.1); have B2 := Lib.hid (Below.next B1.out hB2); clear hB2 h17 h18 z1; have h17 := K2.out.2 17 _ hs17.out; have h18 := K2.out.2 18 _ hs18.out; have z2 := K2.out.1))
 go_ret3
 exact gives3_of (OwnI.nil _ _) hr.out (Nat.le_refl _) B2.out
set_option maxHeartbeats 8000000 in
set_option maxRecDepth 100000 in
theorem rwin_ok (w : World) (s : St) (SV : Array Value) (ai ao : Option Addr) (ci co : Nat) (x y bud : Int) (hsz : SV.size = 19) (h17 : SV[17]? = some (.slice ai s.inn.length ci)) (h18 : SV[18]? = some (.slice ao s.out.length co))
  (FC : ∀ W, Below w.heap.size w W → Calls Tryz.prog 27 #[.agg SV] W fun e w' => e = .returned (.int .i64 (chkS s)) ∧ Below W.heap.size W w')
  (VI : Vals w (.slice ai s.inn.length ci) s.inn) (VO : Vals w (.slice ao s.out.length co) s.out) (hni : s.inn.length ≤ 1000) (hno : s.out.length ≤ 1000) (FW : ∀ W, Below w.heap.size w W → Calls Tryz.prog 54 #[.agg SV, .int .i64 x, .int .i64 y, .int .i64 bud, .bool false] W (Gives3 W (outW (walk (pS s x y bud false))))) (u : Int) (m : List Int) (hm : (m.length : Int) ≤ 4000) (hc : chkS s = 0) (hb : ¬ badW x y bud) (hw : walk (pS s x y bud false) = some (u, m)) :
  Calls Tryz.prog 23 #[.agg SV, .int .i64 x, .int .i64 y, .int .i64 bud] w (Gives3 w (winF s x y bud)) := by
 obtain ⟨dS, uS, rS⟩ := undRSet
 have sS : (Tryz.prog.info? 43).map (·.size) = some SV.size := by rw [hsz]; exact sizeRSet
 have BK : ∀ W, Below (w.alloc (.cells SV 43)).heap.size (w.alloc (.cells SV 43)) W → Blk W w.heap.size SV := fun W h => Blk.mk h
 replace uS := Lib.hid uS
 replace rS := Lib.hid rS
 replace sS := Lib.hid sS
 replace BK := Lib.hid BK
 have hs17 := Lib.hid h17
 have hs18 := Lib.hid h18
 clear h17 h18
 have hr : winF s x y bud = (((within x y (secs s.inn)).foldl insR m).filter (fun t => !decide (t ∈ secs s.out)), u, 0) := by unfold winF; rw [if_neg (by simp [hc]), if_neg hb, hw]; rfl
 rw [hc] at FC
 rw [hw] at FW
 replace FW : ∀ W, Below w.heap.size w W → Calls Tryz.prog 54 #[.agg SV, .int .i64 x, .int .i64 y, .int .i64 bud, .bool false] W fun e w' => ∃ v, e = .returned (.tuple #[v, .int .i64 u, .int .i64 0]) ∧ OwnI w' W.heap.size v m ∧ Below W.heap.size W w' := FW
 replace FC := Lib.hid FC
 replace FW := Lib.hid FW
 have h2 : 0 ≤ x ∧ ¬ y < x ∧ ¬ 315537897600 < y ∧ ¬ bud < 0 ∧ ¬ 4000 < bud := by unfold badW at hb; omega
 obtain ⟨h2, h3, h4, h5, h6⟩ := h2
 have t1 : decide (x < 0) = false := decide_eq_false (by omega)
 have t2 : decide (y < x) = false := decide_eq_false h3
 have t3 : decide (315537897600 < y) = false := decide_eq_false h4
 have t4 : decide (bud < 0) = false := decide_eq_false h5
 have t5 : decide (4000 < bud) = false := decide_eq_false h6
 have AI := Lib.hid (fun W (h : Below w.heap.size w W) k (hk : k < s.inn.length) => VI.at rfl h hk)
 have FH := Lib.hid (fun t W (h : Below w.heap.size w W) => rhas_any t (VO.below h) (by omega))
 have FN := Lib.hid (fun W B v l t (h : OwnI W B v l) (h1 : B ≤ W.heap.size) (h2 : l.length ≤ 100000) => insert_any t h h1 h2)
 have hfl := Lib.hid (fun k => fold_len x y m (s.inn.take k))
 have hfs := Lib.hid (fun k (hk : k < s.inn.length) => fold_snoc x y m hk)
 have hf0 := Lib.hid (show (within x y (secs (s.inn.take 0))).foldl insR m = m by simp [secs, within])
 have hfe := Lib.hid (show (within x y (secs (s.inn.take s.inn.length))).foldl insR m = (within x y (secs s.inn)).foldl insR m by rw [List.take_length])
 replace hr := Lib.hid hr
 clear VI VO hc hsz hb hw
 go_enter Tryz.func23, Tryz.ntmps23
 go_wp2_with (first
  | (refine wpList_load_arr rfl 43 _ rfl w.heap.size 0 rfl SV dS (Blk.range (BK.out _ (by first | exact Below.refl _ _ | assumption | exact hB1.out))) uS.out rS.out sS.out ?_)
  | (go_at_call 27; (with_reducible refine (FC.out _ (Below.next_alloc (Below.refl _ w) _)).mono ?_); rintro e w1 ⟨rfl, hB1⟩; have K1 := Lib.hid (BK.out w1 hB1); have B1 := Lib.hid (Below.next (Below.next_alloc (Below.refl _ w) _) hB1); replace hB1 := Lib.hid hB1; have h17 := K1.out.2 17 _ hs17.out; have h18 := K1.out.2 18 _ hs18.out; have z1 := K1.out.1)
  | (go_at_call 54; (with_reducible refine (FW.out _ B1.out).mono ?_); rintro e w2 ⟨v2, rfl, hO2, hB2⟩; have bz := hB2.size; obtain ⟨a2, g2, hv2⟩ := hO2.slice; subst hv2; replace hO2 := Lib.hid hO2; have K2 := Lib.hid (K1.out.later hB2 K1.out.1); have B2 := Lib.hid (Below.next B1.out hB2); clear hB2 h17 h18 z1; have h17 := K2.out.2 17 _ hs17.out; have h18 := K2.out.2 18 _ hs18.out; have z2 := K2.out.1))
 go_loopw [12, 15] (fun vl vi wr => ∃ k : Nat, k ≤ s.inn.length ∧ vi = .int .i64 k ∧ Hid (OwnI wr w1.heap.size vl ((within x y (secs (s.inn.take k))).foldl insR m)) ∧ Hid (Below w2.heap.size w2 wr)) (fun _ vi _ => s.inn.length - (intOf vi).toNat)
 case atStart => exact ⟨0, by omega, rfl, Lib.hid (by rw [hf0.out]; exact hO2.out), Lib.hid (Below.refl _ _)⟩
 case round =>
  obtain ⟨k, hk, rfl, hO, hB⟩ := hrel
  obtain ⟨wo, rfl⟩ : ∃ q, q = wr := ⟨_, rfl⟩
  obtain ⟨L, hL⟩ : ∃ L, (within x y (secs (s.inn.take k))).foldl insR m = L := ⟨_, rfl⟩
  have hlk := hfl.out k
  have hs0 := fun hk => hfs.out k hk
  rw [hL] at hO hlk
  simp only [hL] at hs0
  replace hL := Lib.hid hL
  replace hs0 := Lib.hid hs0
  obtain ⟨al, gl, rfl⟩ := hO.out.slice
  have Bw := Lib.hid (Below.next B2.out hB.out)
  have KO := K2.out.later hB.out K2.out.1
  have g17 := KO.2 17 _ hs17.out
  have g18 := KO.2 18 _ hs18.out
  have z3 := KO.1
  have KO2 := Lib.hid KO
  have bz2 : w1.heap.size ≤ wo.heap.size := Nat.le_trans bz hB.out.size
  have hlt2 := List.length_take_le k s.inn
  have hn5 : L.length ≤ 100000 := by omega
  clear h17 h18 z2 KO hlk
  by_cases hlt : k < s.inn.length
  ·obtain ⟨b, o, rfl, hbb, e1, e2, hcap⟩ := AI.out wo Bw.out k hlt
   have hs := hs0.out hlt
   generalize s.inn[k] = q at *
   obtain ⟨q1, q2⟩ := q
   simp only at e1 e2 hs
   by_cases hx1 : x ≤ q2
   ·by_cases hx2 : q2 < y
    ·rw [if_pos ⟨hx1, hx2⟩] at hs
     have FNk := Lib.hid (FN.out wo w1.heap.size _ L q2 hO.out bz2 hn5)
     replace hs := Lib.hid hs
     clear hs0
     go_wp2_with (first
      | (go_at_call 55; (with_reducible refine FNk.out.mono ?_); rintro e w4 ⟨v4, rfl, hO4, hB4⟩))
     go_roundw
     case rel => exact ⟨k + 1, by omega, by go_num, Lib.hid (by rw [hs.out]; exact hO4), Lib.hid (Below.next hB.out hB4)⟩
     case measure => simp [intOf]; omega
    ·rw [if_neg (fun h => hx2 h.2)] at hs
     replace hs := Lib.hid hs
     clear hs0
     go_wp2
     go_roundw
     case rel => exact ⟨k + 1, by omega, by go_num, Lib.hid (by rw [hs.out]; exact hO.out), hB⟩
     case measure => simp [intOf]; omega
   ·rw [if_neg (fun h => hx1 h.1)] at hs
    replace hs := Lib.hid hs
    clear hs0
    go_wp2
    go_roundw
    case rel => exact ⟨k + 1, by omega, by go_num, Lib.hid (by rw [hs.out]; exact hO.out), hB⟩
    case measure => simp [intOf]; omega
  ·have hr2 := hr.out
   rw [show (within x y (secs s.inn)).foldl insR m = L by rw [← hL.out, List.take_of_length_le (by omega)]] at hr2
   replace hr2 := Lib.hid hr2
   have hOL := Lib.hid hO.out
   have HLs := Lib.hid (fun wr u (h : Asd none wo (.slice none 0 0) wr u) j (hj : j < L.length) => h.at hO.out (fun k e => by cases e) (fun k e => by cases e) hj)
   clear hs0 hL hfl hfs hf0 hfe FN AI FC FW
   go_wp2
   go_loopw [16, 17] (fun vo vi wr => ∃ j : Nat, j ≤ L.length ∧ vi = .int .i64 j ∧ Hid (OwnI wr w.heap.size vo ((L.take j).filter fun t => !decide (t ∈ secs s.out))) ∧ Hid (Asd none wo (.slice none 0 0) wr vo)) (fun _ vi _ => L.length - (intOf vi).toNat)
   case atStart => exact ⟨0, by omega, rfl, Lib.hid (by rw [List.take_zero]; exact OwnI.nil _ _), Lib.hid (Asd.refl _ _ _)⟩
   case round =>
    obtain ⟨j, hj, rfl, hO5, hA5⟩ := hrel
    obtain ⟨M, hM⟩ : ∃ M, (L.take j).filter (fun t => !decide (t ∈ secs s.out)) = M := ⟨_, rfl⟩
    rw [hM] at hO5
    have hMl : M.length ≤ 1000000 := by rw [← hM]; exact Nat.le_trans (List.length_filter_le _ _) (by rw [List.length_take]; omega)
    obtain ⟨a5, c5, rfl⟩ := hO5.out.slice
    have Bc := Lib.hid (hA5.out.belowNil (B := wo.heap.size) (fun k e => by cases e) (Nat.le_refl _))
    have Bw5 := Lib.hid (Below.next Bw.out Bc.out)
    have K5 := KO2.out.later Bc.out KO2.out.1
    have h18 := K5.2 18 _ hs18.out
    have z5 := K5.1
    have zw : w.heap.size ≤ wr.heap.size := Bw5.out.size
    clear K5
    by_cases hlj : j < L.length
    ·obtain ⟨g, rfl, hg1, hg2, hg3⟩ := HLs.out wr _ hA5.out j hlj
     have hks := keep_snoc (secs s.out) hlj
     rw [hM] at hks
     replace hM := Lib.hid hM
     generalize L[j] = t at *
     have FHt := FH.out t
     by_cases hin : t ∈ secs s.out
     ·rw [if_pos hin] at hks
      rw [decide_eq_true hin] at FHt
      have FHq := Lib.hid (fun n => FHt (wr.drewN n) (Base.below_drewN Bw5.out n))
      replace hks := Lib.hid hks
      clear hin FHt FH
      go_wp2
      go_quiet ((go_at_call 56; with_reducible exact Base.qsame (FHq.out _)))
      go_wp2
      go_roundw
      case rel => exact ⟨j + 1, by omega, by go_num, Lib.hid (by rw [hks.out]; exact OwnI.draw hO5.out), Lib.hid (hA5.out.quiet (Base.below_drewN (Below.refl _ _) _))⟩
      case measure => simp [intOf]; omega
     ·rw [if_neg hin] at hks
      rw [decide_eq_false hin] at FHt
      have FHq := Lib.hid (fun n => FHt (wr.drewN n) (Base.below_drewN Bw5.out n))
      replace hks := Lib.hid hks
      replace hMl := Lib.hid hMl
      clear hin FHt FH
      go_wp2
      go_quiet ((go_at_call 56; with_reducible exact Base.qsame (FHq.out _)))
      go_wp2_with (first
       | (at_builtin; refine pushA rfl _ _ rfl w.heap.size (.slice a5 M.length c5) M rfl (OwnI.draw hO5.out) rfl hMl.out zw ?_; intro g6 cap6 w6 hO6 hA6))
      go_roundw
      case rel => exact ⟨j + 1, by omega, by go_num, Lib.hid (by rw [hks.out]; exact hO6), Lib.hid ((hA5.out.quiet (Base.below_drewN (Below.refl _ _) _)).trans (hA6 none))⟩
      case measure => simp [intOf]; omega
    ·have hMe := Lib.hid (show L.filter (fun t => !decide (t ∈ secs s.out)) = M by rw [← hM, List.take_of_length_le (by omega)])
     have hfin := Lib.hid (show winF s x y bud = (M, u, 0) by rw [hr2.out, hMe.out])
     clear hM hMl
     go_wp2
     go_ret3
     exact gives3_of hO5.out hfin.out (Nat.le_refl _) Bw5.out
theorem rwindow_any (w : World) (s : St) (a : Nat → Option Addr) (c : Nat → Nat) (x y bud : Int) (hL : LS w s (svQ s.rule a c) (.slice (a 13) s.inn.length (c 13)) (.slice (a 14) s.out.length (c 14))) (hW : WS s) :
  Calls Tryz.prog 23 #[.agg (setQ s a c), .int .i64 x, .int .i64 y, .int .i64 bud] w (Gives3 w (winF s x y bud)) := by
 have FC : ∀ W, Below w.heap.size w W → Calls Tryz.prog 27 #[.agg (setQ s a c)] W fun e w' => e = .returned (.int .i64 (chkS s)) ∧ Below W.heap.size W w' := fun W hB => rcheckS_any W s a c (hL.later hB) hW
 by_cases hc : chkS s ≠ 0
 ·exact rwin_err w s (setQ s a c) (a 13) (a 14) (c 13) (c 14) x y bud rfl rfl rfl FC hc
 have hc' := Decidable.byContradiction hc
 by_cases hb : badW x y bud
 ·exact rwin_bad w s (setQ s a c) (a 13) (a 14) (c 13) (c 14) x y bud rfl rfl rfl FC hc' hb
 have hb' := hb
 unfold badW at hb'
 have FW : ∀ W, Below w.heap.size w W → Calls Tryz.prog 54 #[.agg (setQ s a c), .int .i64 x, .int .i64 y, .int .i64 bud, .bool false] W (Gives3 W (outW (walk (pS s x y bud false)))) := fun W hB => rwalk_any W s a c x y bud false (hL.later hB) hW hc' (by omega) (by omega)
 cases hw : walk (pS s x y bud false) with
 | none => exact rwin_spent w s (setQ s a c) (a 13) (a 14) (c 13) (c 14) x y bud rfl rfl rfl FC FW hc' hb hw
 | some q =>
  obtain ⟨u, m⟩ := q
  have hl := walk_len (by omega) hw
  exact rwin_ok w s (setQ s a c) (a 13) (a 14) (c 13) (c 14) x y bud rfl rfl rfl FC hL.2.1 hL.2.2 hW.2.2.2.2.1 hW.2.2.2.2.2 FW u m (by omega) hc' hb hw
end Go.Proofs.YtkbohijlhhpfbaaGreatDoor.Rs
/- The walk through errandref26's Next (printed by gen_next.py). -/
namespace Go.Proofs.YtkbohijlhhpfbaaGreatDoor.Rs
open Go.RowKit Ru Ut Cw Ra Xp
theorem best_snoc (outs : List Int) (after b : Int) {l : List (Int × Int)} {k : Nat} (hk : k < l.length) : bestTo outs after b (secs (l.take (k + 1))) = if after < l[k].2 ∧ l[k].2 < bestTo outs after b (secs (l.take k)) ∧ l[k].2 ∉ outs then l[k].2 else bestTo outs after b (secs (l.take k)) := by
 rw [secs_snoc hk]
 unfold bestTo
 rw [List.foldl_append]; rfl
theorem best_le (outs : List Int) (after b : Int) (l : List Int) : bestTo outs after b l ≤ b := (bestTo_spec outs after l b).2.1
theorem keep_first (outs : List Int) {l : List Int} {k : Nat} (hk : k < l.length) (h : ∀ x ∈ l.take k, x ∈ outs) (h2 : l[k] ∉ outs) : (l.filter fun t => !decide (t ∈ outs)).head? = some l[k] := by
 have e : l = l.take k ++ l[k] :: l.drop (k + 1) := by rw [← List.drop_eq_getElem_cons hk, List.take_append_drop]
 have e1 : (l.take k).filter (fun t => !decide (t ∈ outs)) = [] := by rw [List.filter_eq_nil_iff]; intro x hx; simp [h x hx]
 have e2 : l.filter (fun t => !decide (t ∈ outs)) = l[k] :: (l.drop (k + 1)).filter (fun t => !decide (t ∈ outs)) := by
  refine (congrArg (List.filter _) e).trans ?_
  rw [List.filter_append, e1, List.nil_append, List.filter_cons_of_pos (by simp [h2])]
 rw [e2]; rfl
theorem keep_none (outs : List Int) {l : List Int} (h : ∀ x ∈ l, x ∈ outs) : (l.filter fun t => !decide (t ∈ outs)).head? = none := by
 have e1 : l.filter (fun t => !decide (t ∈ outs)) = [] := by rw [List.filter_eq_nil_iff]; intro x hx; simp [h x hx]
 rw [e1]; rfl
set_option maxHeartbeats 8000000 in
set_option maxRecDepth 100000 in
theorem rnext_err (w : World) (s : St) (SV : Array Value) (ai ao : Option Addr) (ci co : Nat) (after bud : Int) (hsz : SV.size = 19) (h17 : SV[17]? = some (.slice ai s.inn.length ci)) (h18 : SV[18]? = some (.slice ao s.out.length co))
  (FC : ∀ W, Below w.heap.size w W → Calls Tryz.prog 27 #[.agg SV] W fun e w' => e = .returned (.int .i64 (chkS s)) ∧ Below W.heap.size W w') (hc : chkS s ≠ 0) :
  Calls Tryz.prog 29 #[.agg SV, .int .i64 after, .int .i64 bud] w (fun e w' => e = .returned (.tuple #[.int .i64 (nextF s after bud).1, .bool (nextF s after bud).2.1, .int .i64 (nextF s after bud).2.2]) ∧ Below w.heap.size w w') := by
 obtain ⟨dS, uS, rS⟩ := undRSet
 have sS : (Tryz.prog.info? 43).map (·.size) = some SV.size := by rw [hsz]; exact sizeRSet
 have BK : ∀ W, Below (w.alloc (.cells SV 43)).heap.size (w.alloc (.cells SV 43)) W → Blk W w.heap.size SV := fun W h => Blk.mk h
 replace uS := Lib.hid uS
 replace rS := Lib.hid rS
 replace sS := Lib.hid sS
 replace BK := Lib.hid BK
 have hs17 := Lib.hid h17
 have hs18 := Lib.hid h18
 clear h17 h18
 rw [show nextF s after bud = (0, false, chkS s) by unfold nextF; rw [if_pos hc]]
 have hq : (chkS s != 0) = true := by simp [hc]
 replace FC := Lib.hid FC
 clear hc hsz
 go_enter Tryz.func29, Tryz.ntmps29
 go_wp2_with (first
  | (refine wpList_load_arr rfl 43 _ rfl w.heap.size 0 rfl SV dS (Blk.range (BK.out _ (by first | exact Below.refl _ _ | assumption | exact hB1.out | exact hB1c.out))) uS.out rS.out sS.out ?_)
  | (go_at_call 27; (with_reducible refine (FC.out _ (Below.next_alloc (Below.refl _ w) _)).mono ?_); rintro e w1 ⟨rfl, hB1⟩; have K1 := Lib.hid (BK.out w1 hB1); have B1 := Lib.hid (Below.next (Below.next_alloc (Below.refl _ w) _) hB1); replace hB1 := Lib.hid hB1; have h17 := K1.out.2 17 _ hs17.out; have h18 := K1.out.2 18 _ hs18.out; have z1 := K1.out.1))
 go_ret3
 exact ⟨rfl, B1.out⟩
set_option maxHeartbeats 8000000 in
set_option maxRecDepth 100000 in
theorem rnext_bad (w : World) (s : St) (SV : Array Value) (ai ao : Option Addr) (ci co : Nat) (after bud : Int) (hsz : SV.size = 19) (h17 : SV[17]? = some (.slice ai s.inn.length ci)) (h18 : SV[18]? = some (.slice ao s.out.length co))
  (FC : ∀ W, Below w.heap.size w W → Calls Tryz.prog 27 #[.agg SV] W fun e w' => e = .returned (.int .i64 (chkS s)) ∧ Below W.heap.size W w') (hc : chkS s = 0) (hb : badN after bud) :
  Calls Tryz.prog 29 #[.agg SV, .int .i64 after, .int .i64 bud] w (fun e w' => e = .returned (.tuple #[.int .i64 (nextF s after bud).1, .bool (nextF s after bud).2.1, .int .i64 (nextF s after bud).2.2]) ∧ Below w.heap.size w w') := by
 obtain ⟨dS, uS, rS⟩ := undRSet
 have sS : (Tryz.prog.info? 43).map (·.size) = some SV.size := by rw [hsz]; exact sizeRSet
 have BK : ∀ W, Below (w.alloc (.cells SV 43)).heap.size (w.alloc (.cells SV 43)) W → Blk W w.heap.size SV := fun W h => Blk.mk h
 replace uS := Lib.hid uS
 replace rS := Lib.hid rS
 replace sS := Lib.hid sS
 replace BK := Lib.hid BK
 have hs17 := Lib.hid h17
 have hs18 := Lib.hid h18
 clear h17 h18
 rw [show nextF s after bud = (0, false, 8) by unfold nextF; rw [if_neg (by simp [hc]), if_pos hb]]
 rw [hc] at FC
 replace FC := Lib.hid FC
 have h2 : after < -1 ∨ (-1 ≤ after ∧ 315537897599 < after) ∨ (-1 ≤ after ∧ ¬ 315537897599 < after ∧ bud < 0) ∨ (-1 ≤ after ∧ ¬ 315537897599 < after ∧ ¬ bud < 0 ∧ 4000 < bud) := by unfold badN at hb; omega
 clear hc hsz hb
 rcases h2 with h2 | ⟨h2, h3⟩ | ⟨h2, h3, h4⟩ | ⟨h2, h3, h4, h5⟩
 all_goals
  as_aux_lemma =>
  go_enter Tryz.func29, Tryz.ntmps29
  go_wp2_with (first
   | (refine wpList_load_arr rfl 43 _ rfl w.heap.size 0 rfl SV dS (Blk.range (BK.out _ (by first | exact Below.refl _ _ | assumption | exact hB1.out | exact hB1c.out))) uS.out rS.out sS.out ?_)
   | (go_at_call 27; (with_reducible refine (FC.out _ (Below.next_alloc (Below.refl _ w) _)).mono ?_); rintro e w1 ⟨rfl, hB1⟩; have K1 := Lib.hid (BK.out w1 hB1); have B1 := Lib.hid (Below.next (Below.next_alloc (Below.refl _ w) _) hB1); replace hB1 := Lib.hid hB1; have h17 := K1.out.2 17 _ hs17.out; have h18 := K1.out.2 18 _ hs18.out; have z1 := K1.out.1))
  go_ret3
  exact ⟨rfl, B1.out⟩
set_option maxHeartbeats 8000000 in
set_option maxRecDepth 100000 in
theorem rnext_ok (w : World) (s : St) (SV : Array Value) (ai ao : Option Addr) (ci co : Nat) (after bud : Int) (hsz : SV.size = 19) (h17 : SV[17]? = some (.slice ai s.inn.length ci)) (h18 : SV[18]? = some (.slice ao s.out.length co))
  (FC : ∀ W, Below w.heap.size w W → Calls Tryz.prog 27 #[.agg SV] W fun e w' => e = .returned (.int .i64 (chkS s)) ∧ Below W.heap.size W w')
  (VI : Vals w (.slice ai s.inn.length ci) s.inn) (VO : Vals w (.slice ao s.out.length co) s.out) (hni : s.inn.length ≤ 1000) (hno : s.out.length ≤ 1000) (hins : ∀ t ∈ secs s.inn, 0 ≤ t ∧ t ≤ 315537897599)
  (FW : ∀ y W, Below w.heap.size w W → Calls Tryz.prog 54 #[.agg SV, .int .i64 (after + 1), .int .i64 y, .int .i64 bud, .bool true] W (Gives3 W (outW (walk (pS s (after + 1) y bud true))))) (hc : chkS s = 0) (hb : ¬ badN after bud) :
  Calls Tryz.prog 29 #[.agg SV, .int .i64 after, .int .i64 bud] w (fun e w' => e = .returned (.tuple #[.int .i64 (nextF s after bud).1, .bool (nextF s after bud).2.1, .int .i64 (nextF s after bud).2.2]) ∧ Below w.heap.size w w') := by
 obtain ⟨dS, uS, rS⟩ := undRSet
 have sS : (Tryz.prog.info? 43).map (·.size) = some SV.size := by rw [hsz]; exact sizeRSet
 have BK : ∀ W, Below (w.alloc (.cells SV 43)).heap.size (w.alloc (.cells SV 43)) W → Blk W w.heap.size SV := fun W h => Blk.mk h
 replace uS := Lib.hid uS
 replace rS := Lib.hid rS
 replace sS := Lib.hid sS
 replace BK := Lib.hid BK
 have hs17 := Lib.hid h17
 have hs18 := Lib.hid h18
 clear h17 h18
 rw [hc] at FC
 replace FC := Lib.hid FC
 have h2 : -1 ≤ after ∧ ¬ 315537897599 < after ∧ ¬ bud < 0 ∧ ¬ 4000 < bud := by unfold badN at hb; omega
 obtain ⟨h2, h3, h4, h5⟩ := h2
 have t1 : decide (after < -1) = false := decide_eq_false (by omega)
 have t2 : decide (315537897599 < after) = false := decide_eq_false h3
 have t3 : decide (bud < 0) = false := decide_eq_false h4
 have t4 : decide (4000 < bud) = false := decide_eq_false h5
 have AI := Lib.hid (fun W (h : Below w.heap.size w W) k (hk : k < s.inn.length) => VI.at rfl h hk)
 have FH := Lib.hid (fun t W (h : Below w.heap.size w W) => rhas_any t (VO.below h) (by omega))
 have hbs := Lib.hid (fun k (hk : k < s.inn.length) => best_snoc (secs s.out) after 315537897600 hk)
 have hbl := Lib.hid (fun k => best_le (secs s.out) after 315537897600 (secs (s.inn.take k)))
 have hbe := Lib.hid (show bestTo (secs s.out) after 315537897600 (secs (s.inn.take s.inn.length)) = best s after by rw [List.take_length]; rfl)
 have hb0 := Lib.hid (show bestTo (secs s.out) after 315537897600 (secs (s.inn.take 0)) = 315537897600 by simp [secs, bestTo])
 have hin0 := Lib.hid (fun k (hk : k < s.inn.length) => hins _ (secs_mem (List.getElem_mem hk)))
 have hnx := Lib.hid (show nextF s after bud = match walk (pS s (after + 1) (best s after) bud true) with
  | none => (0, false, 13)
  | some (_, m) => endN s after m by unfold nextF; rw [if_neg (by simp [hc]), if_neg hb]; rfl)
 have FWy := FW (best s after)
 cases hw : walk (pS s (after + 1) (best s after) bud true) with
 | none =>
  rw [hw] at FWy
  have hr : nextF s after bud = (0, false, 13) := by rw [hnx.out, hw]
  rw [hr]
  replace FWy : ∀ W, Below w.heap.size w W → Calls Tryz.prog 54 #[.agg SV, .int .i64 (after + 1), .int .i64 (best s after), .int .i64 bud, .bool true] W fun e w' => ∃ v, e = .returned (.tuple #[v, .int .i64 0, .int .i64 13]) ∧ OwnI w' W.heap.size v [] ∧ Below W.heap.size W w' := FWy
  generalize best s after = by0 at *
  replace FWy := Lib.hid FWy
  clear VI VO hc hsz hb hw FW hnx hr hins
  go_enter Tryz.func29, Tryz.ntmps29
  go_wp2_with (first
   | (refine wpList_load_arr rfl 43 _ rfl w.heap.size 0 rfl SV dS (Blk.range (BK.out _ (by first | exact Below.refl _ _ | assumption | exact hB1.out | exact hB1c.out))) uS.out rS.out sS.out ?_)
   | (go_at_call 27; (with_reducible refine (FC.out _ (Below.next_alloc (Below.refl _ w) _)).mono ?_); rintro e w1 ⟨rfl, hB1⟩; have K1 := Lib.hid (BK.out w1 hB1); have B1 := Lib.hid (Below.next (Below.next_alloc (Below.refl _ w) _) hB1); replace hB1 := Lib.hid hB1; have h17 := K1.out.2 17 _ hs17.out; have h18 := K1.out.2 18 _ hs18.out; have z1 := K1.out.1))
  go_loopw [10, 11, 12] (fun vb vs vi wr => ∃ (k : Nat) (b0 : Int) (d0 : Bool), k ≤ s.inn.length ∧ vi = .int .i64 k ∧ vb = .int .i64 b0 ∧ vs = .bool d0 ∧ b0 ≤ 315537897600 ∧ Hid (bestTo (secs s.out) after 315537897600 (secs (s.inn.take k)) = b0) ∧ Hid (d0 = decide (b0 ≤ 315537897599)) ∧ Hid (Below w1.heap.size w1 wr)) (fun _ _ vi _ => s.inn.length - (intOf vi).toNat)
  case atStart => exact ⟨0, 315537897600, false, by omega, rfl, rfl, rfl, by omega, hb0, Lib.hid (by decide), Lib.hid (Below.refl _ _)⟩
  case round =>
   obtain ⟨k, b0, d0, hk, rfl, rfl, rfl, hb00, hbk, hd0, hB⟩ := hrel
   obtain ⟨wo, rfl⟩ : ∃ q, q = wr := ⟨_, rfl⟩
   have Bw := Lib.hid (Below.next B1.out hB.out)
   have KO := Lib.hid (K1.out.later hB.out K1.out.1)
   have hB1c := Lib.hid (Below.next hB1.out hB.out)
   have g17 := KO.out.2 17 _ hs17.out
   have g18 := KO.out.2 18 _ hs18.out
   have z3 := KO.out.1
   clear h17 h18 z1
   by_cases hlt : k < s.inn.length
   ·obtain ⟨b, o, rfl, hbb, e1, e2, hcap⟩ := AI.out wo Bw.out k hlt
    have hs := hbs.out k hlt
    have hq0 := hin0.out k hlt
    rw [hbk.out] at hs
    generalize s.inn[k] = q at *
    obtain ⟨q1, q2⟩ := q
    simp only at e1 e2 hs hq0
    have FHq := FH.out q2 wo Bw.out
    by_cases hx1 : after < q2
    ·by_cases hx2 : q2 < b0
     ·by_cases hx3 : q2 ∈ secs s.out
      ·rw [if_neg (fun h => h.2.2 hx3)] at hs
       rw [decide_eq_true hx3] at FHq
       replace hs := Lib.hid hs
       replace FHq := Lib.hid FHq
       clear hx3
       go_wp2_with (first
        | (go_at_call 56; (with_reducible refine FHq.out.mono ?_); rintro e w3 ⟨rfl, rfl⟩))
       go_roundw
       case rel => exact ⟨k + 1, b0, d0, by omega, by go_num, rfl, rfl, hb00, hs, hd0, hB⟩
       case measure => simp [intOf]; omega
      ·rw [if_pos ⟨hx1, hx2, hx3⟩] at hs
       rw [decide_eq_false hx3] at FHq
       replace hs := Lib.hid hs
       replace FHq := Lib.hid FHq
       clear hx3
       go_wp2_with (first
        | (go_at_call 56; (with_reducible refine FHq.out.mono ?_); rintro e w3 ⟨rfl, rfl⟩))
       go_roundw
       case rel => exact ⟨k + 1, q2, true, by omega, by go_num, rfl, rfl, by omega, hs, Lib.hid (decide_eq_true (by omega)).symm, hB⟩
       case measure => simp [intOf]; omega
     ·rw [if_neg (fun h => hx2 h.2.1)] at hs
      replace hs := Lib.hid hs
      clear FHq
      go_wp2
      go_roundw
      case rel => exact ⟨k + 1, b0, d0, by omega, by go_num, rfl, rfl, hb00, hs, hd0, hB⟩
      case measure => simp [intOf]; omega
    ·rw [if_neg (fun h => hx1 h.1)] at hs
     replace hs := Lib.hid hs
     clear FHq
     go_wp2
     go_roundw
     case rel => exact ⟨k + 1, b0, d0, by omega, by go_num, rfl, rfl, hb00, hs, hd0, hB⟩
     case measure => simp [intOf]; omega
   ·have hbb0 : b0 = by0 := by rw [← hbk.out, ← hbe.out, show k = s.inn.length by omega]
    subst hbb0
    have FWb := FWy
    clear hbs hbl hbe hb0 hbk hin0 AI FC
    go_wp2_with (first
     | (refine wpList_load_arr rfl 43 _ rfl w.heap.size 0 rfl SV dS (Blk.range (BK.out _ (by first | exact Below.refl _ _ | assumption | exact hB1.out | exact hB1c.out))) uS.out rS.out sS.out ?_)
     | (go_at_call 54; (with_reducible refine (FWb.out _ Bw.out).mono ?_); rintro e w2 ⟨v2, rfl, hO2, hB2⟩; obtain ⟨a2, g2, hv2⟩ := hO2.slice; subst hv2; replace hO2 := Lib.hid hO2; have K2 := Lib.hid (KO.out.later hB2 KO.out.1); have B2 := Lib.hid (Below.next Bw.out hB2); clear hB2 g17 g18 z3; have g18 := K2.out.2 18 _ hs18.out; have z4 := K2.out.1))
    go_ret3
    exact ⟨rfl, B2.out⟩
 | some q =>
  obtain ⟨u, m⟩ := q
  rw [hw] at FWy
  have hr : nextF s after bud = endN s after m := by rw [hnx.out, hw]
  rw [hr]
  replace FWy : ∀ W, Below w.heap.size w W → Calls Tryz.prog 54 #[.agg SV, .int .i64 (after + 1), .int .i64 (best s after), .int .i64 bud, .bool true] W fun e w' => ∃ v, e = .returned (.tuple #[v, .int .i64 u, .int .i64 0]) ∧ OwnI w' W.heap.size v m ∧ Below W.heap.size W w' := FWy
  have hml : (m.length : Int) ≤ 4000 := by have := walk_len (by omega) hw; omega
  have hen1 := Lib.hid (fun k (hk : k < m.length) (h1 : ∀ x ∈ m.take k, x ∈ secs s.out) (h2 : m[k] ∉ secs s.out) => (show endN s after m = (m[k], true, 0) by unfold endN freeS; rw [keep_first (secs s.out) hk h1 h2]))
  have hen2 := Lib.hid (fun (h1 : ∀ x ∈ m, x ∈ secs s.out) => (show endN s after m = if best s after ≤ 315537897599 then (best s after, true, 0) else (0, false, 0) by unfold endN freeS; rw [keep_none (secs s.out) h1]))
  generalize best s after = by0 at *
  generalize endN s after m = R at *
  replace FWy := Lib.hid FWy
  clear VI VO hc hsz hb hw FW hnx hr hins
  go_enter Tryz.func29, Tryz.ntmps29
  go_wp2_with (first
   | (refine wpList_load_arr rfl 43 _ rfl w.heap.size 0 rfl SV dS (Blk.range (BK.out _ (by first | exact Below.refl _ _ | assumption | exact hB1.out | exact hB1c.out))) uS.out rS.out sS.out ?_)
   | (go_at_call 27; (with_reducible refine (FC.out _ (Below.next_alloc (Below.refl _ w) _)).mono ?_); rintro e w1 ⟨rfl, hB1⟩; have K1 := Lib.hid (BK.out w1 hB1); have B1 := Lib.hid (Below.next (Below.next_alloc (Below.refl _ w) _) hB1); replace hB1 := Lib.hid hB1; have h17 := K1.out.2 17 _ hs17.out; have h18 := K1.out.2 18 _ hs18.out; have z1 := K1.out.1))
  go_loopw [10, 11, 12] (fun vb vs vi wr => ∃ (k : Nat) (b0 : Int) (d0 : Bool), k ≤ s.inn.length ∧ vi = .int .i64 k ∧ vb = .int .i64 b0 ∧ vs = .bool d0 ∧ b0 ≤ 315537897600 ∧ Hid (bestTo (secs s.out) after 315537897600 (secs (s.inn.take k)) = b0) ∧ Hid (d0 = decide (b0 ≤ 315537897599)) ∧ Hid (Below w1.heap.size w1 wr)) (fun _ _ vi _ => s.inn.length - (intOf vi).toNat)
  case atStart => exact ⟨0, 315537897600, false, by omega, rfl, rfl, rfl, by omega, hb0, Lib.hid (by decide), Lib.hid (Below.refl _ _)⟩
  case round =>
   obtain ⟨k, b0, d0, hk, rfl, rfl, rfl, hb00, hbk, hd0, hB⟩ := hrel
   obtain ⟨wo, rfl⟩ : ∃ q, q = wr := ⟨_, rfl⟩
   have Bw := Lib.hid (Below.next B1.out hB.out)
   have KO := Lib.hid (K1.out.later hB.out K1.out.1)
   have hB1c := Lib.hid (Below.next hB1.out hB.out)
   have g17 := KO.out.2 17 _ hs17.out
   have g18 := KO.out.2 18 _ hs18.out
   have z3 := KO.out.1
   clear h17 h18 z1
   by_cases hlt : k < s.inn.length
   ·obtain ⟨b, o, rfl, hbb, e1, e2, hcap⟩ := AI.out wo Bw.out k hlt
    have hs := hbs.out k hlt
    have hq0 := hin0.out k hlt
    rw [hbk.out] at hs
    generalize s.inn[k] = q at *
    obtain ⟨q1, q2⟩ := q
    simp only at e1 e2 hs hq0
    have FHq := FH.out q2 wo Bw.out
    by_cases hx1 : after < q2
    ·by_cases hx2 : q2 < b0
     ·by_cases hx3 : q2 ∈ secs s.out
      ·rw [if_neg (fun h => h.2.2 hx3)] at hs
       rw [decide_eq_true hx3] at FHq
       replace hs := Lib.hid hs
       replace FHq := Lib.hid FHq
       clear hx3
       go_wp2_with (first
        | (go_at_call 56; (with_reducible refine FHq.out.mono ?_); rintro e w3 ⟨rfl, rfl⟩))
       go_roundw
       case rel => exact ⟨k + 1, b0, d0, by omega, by go_num, rfl, rfl, hb00, hs, hd0, hB⟩
       case measure => simp [intOf]; omega
      ·rw [if_pos ⟨hx1, hx2, hx3⟩] at hs
       rw [decide_eq_false hx3] at FHq
       replace hs := Lib.hid hs
       replace FHq := Lib.hid FHq
       clear hx3
       go_wp2_with (first
        | (go_at_call 56; (with_reducible refine FHq.out.mono ?_); rintro e w3 ⟨rfl, rfl⟩))
       go_roundw
       case rel => exact ⟨k + 1, q2, true, by omega, by go_num, rfl, rfl, by omega, hs, Lib.hid (decide_eq_true (by omega)).symm, hB⟩
       case measure => simp [intOf]; omega
     ·rw [if_neg (fun h => hx2 h.2.1)] at hs
      replace hs := Lib.hid hs
      clear FHq
      go_wp2
      go_roundw
      case rel => exact ⟨k + 1, b0, d0, by omega, by go_num, rfl, rfl, hb00, hs, hd0, hB⟩
      case measure => simp [intOf]; omega
    ·rw [if_neg (fun h => hx1 h.1)] at hs
     replace hs := Lib.hid hs
     clear FHq
     go_wp2
     go_roundw
     case rel => exact ⟨k + 1, b0, d0, by omega, by go_num, rfl, rfl, hb00, hs, hd0, hB⟩
     case measure => simp [intOf]; omega
   ·have hbb0 : b0 = by0 := by rw [← hbk.out, ← hbe.out, show k = s.inn.length by omega]
    subst hbb0
    have FWb := FWy
    clear hbs hbl hbe hb0 hbk hin0 AI FC
    go_wp2_with (first
     | (refine wpList_load_arr rfl 43 _ rfl w.heap.size 0 rfl SV dS (Blk.range (BK.out _ (by first | exact Below.refl _ _ | assumption | exact hB1.out | exact hB1c.out))) uS.out rS.out sS.out ?_)
     | (go_at_call 54; (with_reducible refine (FWb.out _ Bw.out).mono ?_); rintro e w2 ⟨v2, rfl, hO2, hB2⟩; obtain ⟨a2, g2, hv2⟩ := hO2.slice; subst hv2; replace hO2 := Lib.hid hO2; have K2 := Lib.hid (KO.out.later hB2 KO.out.1); have B2 := Lib.hid (Below.next Bw.out hB2); clear hB2 g17 g18 z3; have g18 := K2.out.2 18 _ hs18.out; have z4 := K2.out.1))
    have hOm := Lib.hid (fun W (h : Below w2.heap.size w2 W) k (hk : k < m.length) => own_at hO2.out h hk)
    have hbd := hd0.out
    go_loopw [17] (fun vi wr => ∃ k2 : Nat, k2 ≤ m.length ∧ vi = .int .i64 k2 ∧ Hid (∀ x ∈ m.take k2, x ∈ secs s.out) ∧ Hid (Below w2.heap.size w2 wr)) (fun vi _ => m.length - (intOf vi).toNat)
    case atStart => exact ⟨0, by omega, rfl, Lib.hid (by simp), Lib.hid (Below.refl _ _)⟩
    case round =>
     obtain ⟨k2, hk2, rfl, hall, hwr⟩ := hrel
     have B3 := Lib.hid (Below.next B2.out hwr.out)
     have K3 := K2.out.later hwr.out K2.out.1
     clear g18 z4
     have g18 := K3.2 18 _ hs18.out
     have z4 := K3.1
     clear K3
     by_cases hlt2 : k2 < m.length
     ·obtain ⟨g, rfl, hg1, hg2, hg3⟩ := hOm.out wr hwr.out k2 hlt2
      have he1 := fun h2 => hen1.out k2 hlt2 hall.out h2
      have hsn := List.take_succ_eq_append_getElem hlt2
      generalize m[k2] = t at *
      have FHt := FH.out t
      by_cases hin : t ∈ secs s.out
      ·rw [decide_eq_true hin] at FHt
       have FHn := Lib.hid (fun n => FHt (wr.drewN n) (Base.below_drewN B3.out n))
       have hall2 := Lib.hid (show ∀ x ∈ m.take (k2 + 1), x ∈ secs s.out by
        rw [hsn]; intro x hx
        rcases List.mem_append.1 hx with h | h
        ·exact hall.out x h
        ·rw [List.mem_singleton] at h; rw [h]; exact hin)
       clear hin FHt he1 hsn
       go_wp2
       go_quiet ((go_at_call 56; with_reducible exact Base.qsame (FHn.out _)))
       go_wp2
       go_roundw
       case rel => exact ⟨k2 + 1, by omega, by go_num, hall2, Lib.hid (Base.below_drewN hwr.out _)⟩
       case measure => simp [intOf]; omega
      ·rw [decide_eq_false hin] at FHt
       have FHn := Lib.hid (fun n => FHt (wr.drewN n) (Base.below_drewN B3.out n))
       have hR := Lib.hid (he1 hin)
       clear hin FHt he1 hsn
       go_wp2
       go_quiet ((go_at_call 56; with_reducible exact Base.qsame (FHn.out _)))
       go_wp2
       go_ret3
       exact ⟨by rw [hR.out]; rfl, Base.below_drewN B3.out _⟩
     ·have hR := hen2.out (by have := hall.out; rwa [List.take_of_length_le (by omega)] at this)
      by_cases hb9 : b0 ≤ 315537897599
      ·rw [if_pos hb9] at hR
       rw [decide_eq_true hb9] at hbd
       subst hbd
       replace hR := Lib.hid hR
       go_wp2
       go_ret3
       exact ⟨by rw [hR.out]; rfl, B3.out⟩
      ·rw [if_neg hb9] at hR
       rw [decide_eq_false hb9] at hbd
       subst hbd
       replace hR := Lib.hid hR
       go_wp2
       go_ret3
       exact ⟨by rw [hR.out]; rfl, B3.out⟩
theorem rnext_any (w : World) (s : St) (a : Nat → Option Addr) (c : Nat → Nat) (after bud : Int) (hL : LS w s (svQ s.rule a c) (.slice (a 13) s.inn.length (c 13)) (.slice (a 14) s.out.length (c 14))) (hW : WS s) :
  Calls Tryz.prog 29 #[.agg (setQ s a c), .int .i64 after, .int .i64 bud] w (fun e w' => e = .returned (.tuple #[.int .i64 (nextF s after bud).1, .bool (nextF s after bud).2.1, .int .i64 (nextF s after bud).2.2]) ∧ Below w.heap.size w w') := by
 have FC : ∀ W, Below w.heap.size w W → Calls Tryz.prog 27 #[.agg (setQ s a c)] W fun e w' => e = .returned (.int .i64 (chkS s)) ∧ Below W.heap.size W w' := fun W hB => rcheckS_any W s a c (hL.later hB) hW
 by_cases hc : chkS s ≠ 0
 ·exact rnext_err w s (setQ s a c) (a 13) (a 14) (c 13) (c 14) after bud rfl rfl rfl FC hc
 have hc' := Decidable.byContradiction hc
 by_cases hb : badN after bud
 ·exact rnext_bad w s (setQ s a c) (a 13) (a 14) (c 13) (c 14) after bud rfl rfl rfl FC hc' hb
 have hb' := hb
 unfold badN at hb'
 exact rnext_ok w s (setQ s a c) (a 13) (a 14) (c 13) (c 14) after bud rfl rfl rfl FC hL.2.1 hL.2.2 hW.2.2.2.2.1 hW.2.2.2.2.2 (chkS_parts hc').2.2.2.2.1 (fun y W hB => rwalk_any W s a c (after + 1) y bud true (hL.later hB) hW hc' (by omega) (by omega)) hc' hb
end Go.Proofs.YtkbohijlhhpfbaaGreatDoor.Rs
/- The walk through the law's Small (printed by gen_small.py). -/
namespace Go.Proofs.YtkbohijlhhpfbaaGreatDoor.Rs
open Go.RowKit Ru Ut Cw Ra Xp
theorem Blk.mid {W : World} {b o : Nat} {C D : Array Value} (h : Blk W b C) (hd : ∀ j v, D[j]? = some v → C[o + j]? = some v) : W.rangeAt b o D.toList := fun j v hv => h.2 (o + j) v (hd j v (by simpa using hv))
theorem undRRule : ∃ d, Tryz.prog.underlying 27 = some d ∧ d.isRow = true := ⟨_, Tryz.underlying27, rfl⟩
theorem sizeRRule : (Tryz.prog.info? 27).map (·.size) = some 15 := by kernel_rfl
set_option maxHeartbeats 8000000 in
set_option maxRecDepth 100000 in
theorem smallS_core (w : World) (s : St) (SV RQ : Array Value) (ai ao : Option Addr) (ci co : Nat) (h17 : SV[17]? = some (.slice ai s.inn.length ci)) (h18 : SV[18]? = some (.slice ao s.out.length co)) (hRs : RQ.size = 15) (hRQ : ∀ j v, RQ[j]? = some v → SV[2 + j]? = some v) (b : Bool)
  (hni : s.inn.length ≤ 9223372036854775807) (hno : s.out.length ≤ 9223372036854775807)
  (F : ∀ W, Below w.heap.size w W → Calls Tryz.prog 9 #[.agg RQ] W fun e w' => e = .returned (.bool b) ∧ Below W.heap.size W w') :
  Calls Tryz.prog 19 #[.agg SV] w fun e w' => e = .returned (.bool (b && decide (s.inn.length ≤ 20) && decide (s.out.length ≤ 20))) ∧ Below w.heap.size w w' := by
 obtain ⟨dS, uS, rS⟩ := undRRule
 have sS : (Tryz.prog.info? 27).map (·.size) = some RQ.size := by rw [hRs]; exact sizeRRule
 have BK : ∀ W, Below (w.alloc (.cells SV 43)).heap.size (w.alloc (.cells SV 43)) W → Blk W w.heap.size SV := fun W h => Blk.mk h
 have BR : (w.alloc (.cells SV 43)).rangeAt w.heap.size 2 RQ.toList := (BK _ (Below.refl _ _)).mid hRQ
 replace uS := Lib.hid uS
 replace rS := Lib.hid rS
 replace sS := Lib.hid sS
 replace BK := Lib.hid BK
 replace BR := Lib.hid BR
 replace F := Lib.hid F
 have hs17 := Lib.hid h17
 have hs18 := Lib.hid h18
 clear h17 h18 hRs hRQ
 cases b with
 | false =>
  go_enter Tryz.func19, Tryz.ntmps19
  go_wp2_with (first
   | (refine wpList_load_arr rfl 27 _ rfl w.heap.size 2 rfl RQ dS BR.out uS.out rS.out sS.out ?_)
   | (go_at_call 9; (with_reducible refine (F.out _ (Below.next_alloc (Below.refl _ w) _)).mono ?_); rintro e w1 ⟨rfl, hB1⟩; have B1 := Lib.hid (Below.next (Below.next_alloc (Below.refl _ w) _) hB1); have K1 := BK.out w1 hB1; have g17 := K1.2 17 _ hs17.out; have g18 := K1.2 18 _ hs18.out; have z1 := K1.1; clear K1 hB1))
  go_ret
  exact ⟨rfl, B1.out⟩
 | true =>
  by_cases hi : s.inn.length ≤ 20
  ·by_cases ho : s.out.length ≤ 20
   ·rw [decide_eq_true hi, decide_eq_true ho]
    have tq : decide ((s.out.length : Int) ≤ 20) = true := decide_eq_true (by omega)
    go_enter Tryz.func19, Tryz.ntmps19
    go_wp2_with (first
     | (refine wpList_load_arr rfl 27 _ rfl w.heap.size 2 rfl RQ dS BR.out uS.out rS.out sS.out ?_)
     | (go_at_call 9; (with_reducible refine (F.out _ (Below.next_alloc (Below.refl _ w) _)).mono ?_); rintro e w1 ⟨rfl, hB1⟩; have B1 := Lib.hid (Below.next (Below.next_alloc (Below.refl _ w) _) hB1); have K1 := BK.out w1 hB1; have g17 := K1.2 17 _ hs17.out; have g18 := K1.2 18 _ hs18.out; have z1 := K1.1; clear K1 hB1))
    go_ret
    exact ⟨rfl, B1.out⟩
   ·rw [decide_eq_true hi, decide_eq_false ho]
    have tq : decide ((s.out.length : Int) ≤ 20) = false := decide_eq_false (by omega)
    go_enter Tryz.func19, Tryz.ntmps19
    go_wp2_with (first
     | (refine wpList_load_arr rfl 27 _ rfl w.heap.size 2 rfl RQ dS BR.out uS.out rS.out sS.out ?_)
     | (go_at_call 9; (with_reducible refine (F.out _ (Below.next_alloc (Below.refl _ w) _)).mono ?_); rintro e w1 ⟨rfl, hB1⟩; have B1 := Lib.hid (Below.next (Below.next_alloc (Below.refl _ w) _) hB1); have K1 := BK.out w1 hB1; have g17 := K1.2 17 _ hs17.out; have g18 := K1.2 18 _ hs18.out; have z1 := K1.1; clear K1 hB1))
    go_ret
    exact ⟨rfl, B1.out⟩
  ·rw [decide_eq_false hi]
   go_enter Tryz.func19, Tryz.ntmps19
   go_wp2_with (first
    | (refine wpList_load_arr rfl 27 _ rfl w.heap.size 2 rfl RQ dS BR.out uS.out rS.out sS.out ?_)
    | (go_at_call 9; (with_reducible refine (F.out _ (Below.next_alloc (Below.refl _ w) _)).mono ?_); rintro e w1 ⟨rfl, hB1⟩; have B1 := Lib.hid (Below.next (Below.next_alloc (Below.refl _ w) _) hB1); have K1 := BK.out w1 hB1; have g17 := K1.2 17 _ hs17.out; have g18 := K1.2 18 _ hs18.out; have z1 := K1.1; clear K1 hB1))
   go_ret
   exact ⟨rfl, B1.out⟩
theorem smallS_any (w : World) (s : St) (a : Nat → Option Addr) (c : Nat → Nat) (hL : LS w s (svQ s.rule a c) (.slice (a 13) s.inn.length (c 13)) (.slice (a 14) s.out.length (c 14))) (hni : s.inn.length ≤ 9223372036854775807) (hno : s.out.length ≤ 9223372036854775807) (hn : ∀ q, 4 ≤ q → q ≤ 12 → q ≠ 7 → (lst s.rule q).length ≤ 9223372036854775807) (hn7 : s.rule.day.length ≤ 9223372036854775807) :
  Calls Tryz.prog 19 #[.agg (setQ s a c)] w fun e w' => e = .returned (.bool (smallR s.rule && decide (s.inn.length ≤ 20) && decide (s.out.length ≤ 20))) ∧ Below w.heap.size w w' := by
 refine smallS_core w s (setQ s a c) (ruleQ s a c) (a 13) (a 14) (c 13) (c 14) rfl rfl rfl (fun j v h => ?_) _ hni hno fun W hB => small_any W s.rule (svQ s.rule a c) (hL.1.later hB) hn hn7
 unfold ruleQ at h
 unfold setQ
 match j, h with
 | 0, h => exact h
 | 1, h => exact h
 | 2, h => exact h
 | 3, h => exact h
 | 4, h => exact h
 | 5, h => exact h
 | 6, h => exact h
 | 7, h => exact h
 | 8, h => exact h
 | 9, h => exact h
 | 10, h => exact h
 | 11, h => exact h
 | 12, h => exact h
 | 13, h => exact h
 | 14, h => exact h
 | n + 15, h => simp at h
end Go.Proofs.YtkbohijlhhpfbaaGreatDoor.Rs

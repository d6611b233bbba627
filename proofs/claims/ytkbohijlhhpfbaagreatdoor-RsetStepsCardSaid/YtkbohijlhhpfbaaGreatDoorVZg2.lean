import Derived.Test.YtkbohijlhhpfbaaGreatDoorVZi
import Derived.Test.YtkbohijlhhpfbaaGreatDoorVZt
import Derived.Test.YtkbohijlhhpfbaaGreatDoorVYu
import Derived.Test.YtkbohijlhhpfbaaGreatDoorVYy6
/- The walks through rset's Window and Has (printed by gen_pwin.py). -/
namespace Go.Proofs.YtkbohijlhhpfbaaGreatDoor.Rs
open Go.RowKit Ru Ut Cw Ra Xp
set_option maxHeartbeats 8000000 in
set_option maxRecDepth 100000 in
theorem pwin_err (w : World) (s : St) (SV : Array Value) (ai ao : Option Addr) (ci co : Nat) (x y bud : Int) (hsz : SV.size = 19) (h17 : SV[17]? = some (.slice ai s.inn.length ci)) (h18 : SV[18]? = some (.slice ao s.out.length co))
  (FC : ∀ W, Below w.heap.size w W → Calls Tryz.prog 26 #[.agg SV] W fun e w' => e = .returned (.int .i64 (chkS s)) ∧ Below W.heap.size W w') (hc : chkS s ≠ 0) :
  Calls Tryz.prog 22 #[.agg SV, .int .i64 x, .int .i64 y, .int .i64 bud] w (Gives3 w (winF s x y bud)) := by
 obtain ⟨dS, uS, rS⟩ := undSet
 have sS : (Tryz.prog.info? 48).map (·.size) = some SV.size := by rw [hsz]; exact sizeSet
 have BK : ∀ W, Below (w.alloc (.cells SV 48)).heap.size (w.alloc (.cells SV 48)) W → Blk W w.heap.size SV := fun W h => Blk.mk h
 replace uS := Lib.hid uS
 replace rS := Lib.hid rS
 replace sS := Lib.hid sS
 replace BK := Lib.hid BK
 have hs17 := Lib.hid h17
 have hs18 := Lib.hid h18
 clear h17 h18
 have hr := Lib.hid (show winF s x y bud = ([], 0, chkS s) by unfold winF; rw [if_pos hc])
 have hq : (chkS s != 0) = true := by simp [hc]
 replace FC := Lib.hid FC
 clear hc hsz
 go_enter Tryz.func22, Tryz.ntmps22
 go_wp2_with (first
  | (refine wpList_load_arr rfl 48 _ rfl w.heap.size 0 rfl SV dS (Blk.range (BK.out _ (by first | exact Below.refl _ _ | assumption | exact hB1.out))) uS.out rS.out sS.out ?_)
  | (go_at_call 26; (with_reducible refine (FC.out _ (Below.next_alloc (Below.refl _ w) _)).mono ?_); rintro e w1 ⟨rfl, hB1⟩; have K1 := Lib.hid (BK.out w1 hB1); have B1 := Lib.hid (Below.next (Below.next_alloc (Below.refl _ w) _) hB1); replace hB1 := Lib.hid hB1; have h17 := K1.out.2 17 _ hs17.out; have h18 := K1.out.2 18 _ hs18.out; have z1 := K1.out.1))
 go_ret3
 exact gives3_of (OwnI.nil _ _) hr.out (Nat.le_refl _) B1.out
set_option maxHeartbeats 8000000 in
set_option maxRecDepth 100000 in
theorem pwin_bad (w : World) (s : St) (SV : Array Value) (ai ao : Option Addr) (ci co : Nat) (x y bud : Int) (hsz : SV.size = 19) (h17 : SV[17]? = some (.slice ai s.inn.length ci)) (h18 : SV[18]? = some (.slice ao s.out.length co))
  (FC : ∀ W, Below w.heap.size w W → Calls Tryz.prog 26 #[.agg SV] W fun e w' => e = .returned (.int .i64 (chkS s)) ∧ Below W.heap.size W w') (hc : chkS s = 0) (hb : badW x y bud) :
  Calls Tryz.prog 22 #[.agg SV, .int .i64 x, .int .i64 y, .int .i64 bud] w (Gives3 w (winF s x y bud)) := by
 obtain ⟨dS, uS, rS⟩ := undSet
 have sS : (Tryz.prog.info? 48).map (·.size) = some SV.size := by rw [hsz]; exact sizeSet
 have BK : ∀ W, Below (w.alloc (.cells SV 48)).heap.size (w.alloc (.cells SV 48)) W → Blk W w.heap.size SV := fun W h => Blk.mk h
 replace uS := Lib.hid uS
 replace rS := Lib.hid rS
 replace sS := Lib.hid sS
 replace BK := Lib.hid BK
 have hs17 := Lib.hid h17
 have hs18 := Lib.hid h18
 clear h17 h18
 have hr := Lib.hid (show winF s x y bud = ([], 0, 8) by unfold winF; rw [if_neg (by simp [hc]), if_pos hb])
 rw [hc] at FC
 replace FC := Lib.hid FC
 have FP0 := fun W => spans_any bud W
 have h2 : x < 0 ∨ (0 ≤ x ∧ y < x) ∨ (0 ≤ x ∧ ¬ y < x ∧ 315537897600 < y) ∨ (0 ≤ x ∧ ¬ y < x ∧ ¬ 315537897600 < y ∧ ¬ (0 ≤ bud ∧ bud ≤ 4000)) := by unfold badW at hb; omega
 clear hc hsz hb
 rcases h2 with h2 | ⟨h2, h3⟩ | ⟨h2, h3, h4⟩ | ⟨h2, h3, h4, h5⟩
 rotate_left 3
 ·rw [show (decide (0 ≤ bud) && decide (bud ≤ 4000)) = false by rw [Bool.and_eq_false_iff, decide_eq_false_iff_not, decide_eq_false_iff_not]; omega] at FP0
  have FP := Lib.hid FP0
  clear FP0 h5
  as_aux_lemma =>
  go_enter Tryz.func22, Tryz.ntmps22
  go_wp2_with (first
   | (refine wpList_load_arr rfl 48 _ rfl w.heap.size 0 rfl SV dS (Blk.range (BK.out _ (by first | exact Below.refl _ _ | assumption | exact hB1.out))) uS.out rS.out sS.out ?_)
   | (go_at_call 26; (with_reducible refine (FC.out _ (Below.next_alloc (Below.refl _ w) _)).mono ?_); rintro e w1 ⟨rfl, hB1⟩; have K1 := Lib.hid (BK.out w1 hB1); have B1 := Lib.hid (Below.next (Below.next_alloc (Below.refl _ w) _) hB1); replace hB1 := Lib.hid hB1; have h17 := K1.out.2 17 _ hs17.out; have h18 := K1.out.2 18 _ hs18.out; have z1 := K1.out.1)
   | (go_at_call 47; (with_reducible refine (FP.out _).mono ?_); rintro e ws ⟨rfl, rfl⟩))
  go_ret3
  exact gives3_of (OwnI.nil _ _) hr.out (Nat.le_refl _) B1.out
 all_goals
  clear FP0
  as_aux_lemma =>
  go_enter Tryz.func22, Tryz.ntmps22
  go_wp2_with (first
   | (refine wpList_load_arr rfl 48 _ rfl w.heap.size 0 rfl SV dS (Blk.range (BK.out _ (by first | exact Below.refl _ _ | assumption | exact hB1.out))) uS.out rS.out sS.out ?_)
   | (go_at_call 26; (with_reducible refine (FC.out _ (Below.next_alloc (Below.refl _ w) _)).mono ?_); rintro e w1 ⟨rfl, hB1⟩; have K1 := Lib.hid (BK.out w1 hB1); have B1 := Lib.hid (Below.next (Below.next_alloc (Below.refl _ w) _) hB1); replace hB1 := Lib.hid hB1; have h17 := K1.out.2 17 _ hs17.out; have h18 := K1.out.2 18 _ hs18.out; have z1 := K1.out.1))
  go_ret3
  exact gives3_of (OwnI.nil _ _) hr.out (Nat.le_refl _) B1.out
set_option maxHeartbeats 8000000 in
set_option maxRecDepth 100000 in
theorem pwin_spent (w : World) (s : St) (SV : Array Value) (ai ao : Option Addr) (ci co : Nat) (x y bud : Int) (hsz : SV.size = 19) (h17 : SV[17]? = some (.slice ai s.inn.length ci)) (h18 : SV[18]? = some (.slice ao s.out.length co))
  (FC : ∀ W, Below w.heap.size w W → Calls Tryz.prog 26 #[.agg SV] W fun e w' => e = .returned (.int .i64 (chkS s)) ∧ Below W.heap.size W w')
  (WQ : Array Value) (hWs : WQ.size = 26) (hW1 : WQ.all (·.oneCell') = true) (FS : ∀ W, Below w.heap.size w W → Calls Tryz.prog 48 #[.agg SV, .int .i64 x, .int .i64 y, .int .i64 bud, .bool false] W fun e w' => e = .returned (.agg WQ) ∧ Below W.heap.size W w')
  (FR : ∀ W, Below w.heap.size w W → Calls Tryz.prog 49 #[.pointer (some ⟨W.heap.size, 0, none⟩)] (W.alloc (.cells WQ 93)) fun e w' => e = .returned (.int .i64 13) ∧ Below W.heap.size W w') (hc : chkS s = 0) (hb : ¬ badW x y bud) (hw : walk (pS s x y bud false) = none) :
  Calls Tryz.prog 22 #[.agg SV, .int .i64 x, .int .i64 y, .int .i64 bud] w (Gives3 w (winF s x y bud)) := by
 obtain ⟨dS, uS, rS⟩ := undSet
 have sS : (Tryz.prog.info? 48).map (·.size) = some SV.size := by rw [hsz]; exact sizeSet
 have BK : ∀ W, Below (w.alloc (.cells SV 48)).heap.size (w.alloc (.cells SV 48)) W → Blk W w.heap.size SV := fun W h => Blk.mk h
 replace uS := Lib.hid uS
 replace rS := Lib.hid rS
 replace sS := Lib.hid sS
 replace BK := Lib.hid BK
 have hs17 := Lib.hid h17
 have hs18 := Lib.hid h18
 clear h17 h18
 have sW : (Tryz.prog.info? 93).map (·.size) = some WQ.size := by rw [hWs]; exact sizeWalk
 replace sW := Lib.hid sW
 replace hWs := Lib.hid hWs
 replace hW1 := Lib.hid hW1
 replace FS := Lib.hid FS
 have h2 : 0 ≤ x ∧ ¬ y < x ∧ ¬ 315537897600 < y ∧ 0 ≤ bud ∧ bud ≤ 4000 := by unfold badW at hb; omega
 obtain ⟨h2, h3, h4, h5, h6⟩ := h2
 have FP0 := fun W => spans_any bud W
 rw [show (decide (0 ≤ bud) && decide (bud ≤ 4000)) = true by rw [decide_eq_true h5, decide_eq_true h6]; rfl] at FP0
 have FP := Lib.hid FP0
 clear FP0
 have hr := Lib.hid (show winF s x y bud = ([], 0, 13) by unfold winF; rw [if_neg (by simp [hc]), if_neg hb, hw])
 rw [hc] at FC
 replace FC := Lib.hid FC
 replace FR := Lib.hid FR
 clear hc hsz hb hw
 go_enter Tryz.func22, Tryz.ntmps22
 go_wp2_with (first
  | (refine wpList_load_arr rfl 48 _ rfl w.heap.size 0 rfl SV dS (Blk.range (BK.out _ (by first | exact Below.refl _ _ | assumption | exact hB1.out))) uS.out rS.out sS.out ?_)
  | (go_at_call 26; (with_reducible refine (FC.out _ (Below.next_alloc (Below.refl _ w) _)).mono ?_); rintro e w1 ⟨rfl, hB1⟩; have K1 := Lib.hid (BK.out w1 hB1); have B1 := Lib.hid (Below.next (Below.next_alloc (Below.refl _ w) _) hB1); replace hB1 := Lib.hid hB1; have h17 := K1.out.2 17 _ hs17.out; have h18 := K1.out.2 18 _ hs18.out; have z1 := K1.out.1)
  | (go_at_call 47; (with_reducible refine (FP.out _).mono ?_); rintro e ws ⟨rfl, rfl⟩)
  | (go_at_call 48; (with_reducible refine (FS.out _ B1.out).mono ?_); rintro e w2 ⟨rfl, hB2⟩; have K2 := Lib.hid (K1.out.later hB2 K1.out.1); have B2 := Lib.hid (Below.next B1.out hB2); have z12 := hB2.size; clear hB2 h17 h18 z1; have z2 := K2.out.1)
  | (refine wpList_store_new rfl 93 _ _ rfl WQ w2.heap.size rfl rfl rfl sW.out (by rw [hWs.out]; rfl) hW1.out ?_)
  | (go_at_call 49; (with_reducible refine (FR.out w2 B2.out).mono ?_); rintro e w4 ⟨rfl, hB4⟩; have B4 := Lib.hid (B2.out.trans (hB4.mono B2.out.size))))
 go_ret3
 exact gives3_of (OwnI.nil _ _) hr.out (Nat.le_refl _) B4.out
theorem push_at {ops : Array Oper} {rest : List Oper} {o : Oper} {a : Act} {Q : Exit → Act → World → Prop} {W : World} {T' : TypeId} {z : Int} (hgd : o.guard = none) (s x : Operand)
  (ho : o.op = .call { callee := .builtin .append, args := #[s, x], argTypes := #[24, 24] }) (B : Nat) (v : Value) (l : List Int) (hs : a.eval s = v) (hown : OwnI W B v l)
  (n : Nat) (hx : a.eval x = .slice (some ⟨n, 0, none⟩) 1 1) (hnn : n = W.heap.size) (hn : l.length ≤ 1000000) (hB : B ≤ W.heap.size)
  (h : ∀ v' w', OwnI w' B v' (l ++ [z]) → Below B W w' → wpList Tryz.prog ops Q rest (a.put o.dst v') w') : wpList Tryz.prog ops Q (o :: rest) a (W.alloc (.cells #[.int .i64 z] T')) := by
 subst hnn
 exact push_int hgd s x ho B v l hs hown hx hn hB h
theorem in_snoc (x y : Int) (m : List Int) {l : List (Int × Int)} {k : Nat} (hk : k < l.length) : m ++ within x y (secs (l.take (k + 1))) = (m ++ within x y (secs (l.take k))) ++ if x ≤ l[k].2 ∧ l[k].2 < y then [l[k].2] else [] := by
 rw [secs_snoc hk]
 unfold within
 rw [List.filter_append, List.append_assoc]
 by_cases h : x ≤ l[k].2 ∧ l[k].2 < y
 ·rw [if_pos h, List.filter_cons_of_pos (by simpa using h)]; rfl
 ·rw [if_neg h, List.filter_cons_of_neg (by simpa using h)]; rfl
theorem in_len (x y : Int) (m : List Int) (l : List (Int × Int)) : (m ++ within x y (secs l)).length ≤ m.length + l.length := by
 have h3 : (within x y (secs l)).length ≤ l.length := by
  unfold within
  refine Nat.le_trans (List.length_filter_le _ _) ?_
  rw [secs_length]; exact Nat.le_refl _
 rw [List.length_append]; omega
set_option maxHeartbeats 8000000 in
set_option maxRecDepth 100000 in
theorem pwin_ok (w : World) (s : St) (SV : Array Value) (ai ao : Option Addr) (ci co : Nat) (x y bud : Int) (hsz : SV.size = 19) (h17 : SV[17]? = some (.slice ai s.inn.length ci)) (h18 : SV[18]? = some (.slice ao s.out.length co))
  (FC : ∀ W, Below w.heap.size w W → Calls Tryz.prog 26 #[.agg SV] W fun e w' => e = .returned (.int .i64 (chkS s)) ∧ Below W.heap.size W w')
  (WQ : Array Value) (hWs : WQ.size = 26) (hW1 : WQ.all (·.oneCell') = true) (FS : ∀ W, Below w.heap.size w W → Calls Tryz.prog 48 #[.agg SV, .int .i64 x, .int .i64 y, .int .i64 bud, .bool false] W fun e w' => e = .returned (.agg WQ) ∧ Below W.heap.size W w')
  (VI : Vals w (.slice ai s.inn.length ci) s.inn) (VO : Vals w (.slice ao s.out.length co) s.out) (hni : s.inn.length ≤ 1000) (hno : s.out.length ≤ 1000) (u : Int) (m : List Int) (hmr : m.Pairwise (· < ·)) (hm : (m.length : Int) ≤ 4000)
  (FR : ∀ W, Below w.heap.size w W → Calls Tryz.prog 49 #[.pointer (some ⟨W.heap.size, 0, none⟩)] (W.alloc (.cells WQ 93)) fun e w' => ∃ v, e = .returned (.int .i64 0) ∧ Below W.heap.size W w' ∧ w'.cell? ⟨W.heap.size, 24, none⟩ = some (.int .i64 u) ∧ w'.cell? ⟨W.heap.size, 25, none⟩ = some v ∧ OwnI w' (W.heap.size + 1) v m ∧ W.heap.size < w'.heap.size) (hc : chkS s = 0) (hb : ¬ badW x y bud) (hw : walk (pS s x y bud false) = some (u, m)) :
  Calls Tryz.prog 22 #[.agg SV, .int .i64 x, .int .i64 y, .int .i64 bud] w (Gives3 w (winF s x y bud)) := by
 obtain ⟨dS, uS, rS⟩ := undSet
 have sS : (Tryz.prog.info? 48).map (·.size) = some SV.size := by rw [hsz]; exact sizeSet
 have BK : ∀ W, Below (w.alloc (.cells SV 48)).heap.size (w.alloc (.cells SV 48)) W → Blk W w.heap.size SV := fun W h => Blk.mk h
 replace uS := Lib.hid uS
 replace rS := Lib.hid rS
 replace sS := Lib.hid sS
 replace BK := Lib.hid BK
 have hs17 := Lib.hid h17
 have hs18 := Lib.hid h18
 clear h17 h18
 have sW : (Tryz.prog.info? 93).map (·.size) = some WQ.size := by rw [hWs]; exact sizeWalk
 replace sW := Lib.hid sW
 replace hWs := Lib.hid hWs
 replace hW1 := Lib.hid hW1
 replace FS := Lib.hid FS
 have h2 : 0 ≤ x ∧ ¬ y < x ∧ ¬ 315537897600 < y ∧ 0 ≤ bud ∧ bud ≤ 4000 := by unfold badW at hb; omega
 obtain ⟨h2, h3, h4, h5, h6⟩ := h2
 have FP0 := fun W => spans_any bud W
 rw [show (decide (0 ≤ bud) && decide (bud ≤ 4000)) = true by rw [decide_eq_true h5, decide_eq_true h6]; rfl] at FP0
 have FP := Lib.hid FP0
 clear FP0
 have hr0 : winF s x y bud = (winR m (secs s.inn) (secs s.out) x y, u, 0) := by unfold winF; rw [if_neg (by simp [hc]), if_neg hb, hw]
 have hr : winF s x y bud = ((Lib.compact (Tm.sortI (m ++ within x y (secs s.inn)))).filter (fun t => !decide (t ∈ secs s.out)), u, 0) := by
  obtain ⟨s1, s2, s3⟩ := comp_spec (m ++ within x y (secs s.inn))
  rw [hr0, ← win_eq (ins := secs s.inn) (outs := secs s.out) (a := x) (b := y) hmr (s1.filter _) fun t => ?_]
  rw [List.mem_filter, s2, List.mem_append]
  unfold within
  rw [List.mem_filter]
  simp
 rw [hc] at FC
 replace FC := Lib.hid FC
 replace FR := Lib.hid FR
 have t1 : decide (x < 0) = false := decide_eq_false (by omega)
 have t2 : decide (y < x) = false := decide_eq_false h3
 have t3 : decide (315537897600 < y) = false := decide_eq_false h4
 have AI := Lib.hid (fun W (h : Below w.heap.size w W) k (hk : k < s.inn.length) => VI.at rfl h hk)
 have FD := Lib.hid (fun W (h : Below w.heap.size w W) (h2 : W.cell? ⟨w.heap.size, 18, none⟩ = some (.slice ao s.out.length co)) t => win1_any w.heap.size t h2 (VO.below h) (by omega))
 have hfl := Lib.hid (fun k => in_len x y m (s.inn.take k))
 have hfs := Lib.hid (fun k (hk : k < s.inn.length) => in_snoc x y m hk)
 have hf0 := Lib.hid (show m ++ within x y (secs (s.inn.take 0)) = m by simp [secs, within])
 have hmf : ∀ (fn : Fn) (first cap : Array Value) (w : World), (Instr.makeFunc fn first cap).run Tryz.prog w = .ok (.func fn first cap) w := fun _ _ _ _ => rfl
 replace hr := Lib.hid hr
 clear VI VO hc hsz hb hw hr0 hmr
 go_enter Tryz.func22, Tryz.ntmps22
 go_wp2_with (first
  | (refine wpList_load_arr rfl 48 _ rfl w.heap.size 0 rfl SV dS (Blk.range (BK.out _ (by first | exact Below.refl _ _ | assumption | exact hB1.out))) uS.out rS.out sS.out ?_)
  | (go_at_call 26; (with_reducible refine (FC.out _ (Below.next_alloc (Below.refl _ w) _)).mono ?_); rintro e w1 ⟨rfl, hB1⟩; have K1 := Lib.hid (BK.out w1 hB1); have B1 := Lib.hid (Below.next (Below.next_alloc (Below.refl _ w) _) hB1); replace hB1 := Lib.hid hB1; have h17 := K1.out.2 17 _ hs17.out; have h18 := K1.out.2 18 _ hs18.out; have z1 := K1.out.1)
  | (go_at_call 47; (with_reducible refine (FP.out _).mono ?_); rintro e ws ⟨rfl, rfl⟩)
  | (go_at_call 48; (with_reducible refine (FS.out _ B1.out).mono ?_); rintro e w2 ⟨rfl, hB2⟩; have K2 := Lib.hid (K1.out.later hB2 K1.out.1); have B2 := Lib.hid (Below.next B1.out hB2); have z12 := hB2.size; clear hB2 h17 h18 z1; have z2 := K2.out.1)
  | (refine wpList_store_new rfl 93 _ _ rfl WQ w2.heap.size rfl rfl rfl sW.out (by rw [hWs.out]; rfl) hW1.out ?_)
  | (go_at_call 49; (with_reducible refine (FR.out w2 B2.out).mono ?_); rintro e w4 ⟨v4, rfl, hB4, c24, c25, hO4, z4⟩; obtain ⟨a4, g4, hv4⟩ := hO4.slice; subst hv4; replace hO4 := Lib.hid hO4; have B4 := Lib.hid (B2.out.trans (hB4.mono B2.out.size)); have K4 := Lib.hid (K2.out.later hB4 z2); clear hB4; have h17 := K4.out.2 17 _ hs17.out; have h18 := K4.out.2 18 _ hs18.out))
 have bz : w2.heap.size + 1 ≤ w4.heap.size := z4
 go_loopw [14, 52] (fun vl vi wr => ∃ k : Nat, k ≤ s.inn.length ∧ vi = .int .i64 k ∧ Hid (OwnI wr (w2.heap.size + 1) vl (m ++ within x y (secs (s.inn.take k)))) ∧ Hid (Below (w2.heap.size + 1) w4 wr)) (fun _ vi _ => s.inn.length - (intOf vi).toNat)
 case atStart => exact ⟨0, by omega, rfl, Lib.hid (by rw [hf0.out]; exact hO4.out), Lib.hid (Below.refl _ _)⟩
 case round =>
  obtain ⟨k, hk, rfl, hO, hB⟩ := hrel
  obtain ⟨wo, rfl⟩ : ∃ q, q = wr := ⟨_, rfl⟩
  obtain ⟨L, hL⟩ : ∃ L, m ++ within x y (secs (s.inn.take k)) = L := ⟨_, rfl⟩
  have hlk := hfl.out k
  have hs0 := fun hk => hfs.out k hk
  rw [hL] at hO hlk
  simp only [hL] at hs0
  replace hL := Lib.hid hL
  replace hs0 := Lib.hid hs0
  obtain ⟨al, gl, rfl⟩ := hO.out.slice
  have zwb : w.heap.size ≤ w2.heap.size + 1 := by have := B2.out.size; omega
  have Bw := Lib.hid (B4.out.trans (hB.out.mono zwb))
  have hlt2 := List.length_take_le k s.inn
  have hn5 := Lib.hid (show L.length ≤ 100000 by omega)
  have bz2 : w2.heap.size + 1 ≤ wo.heap.size := Nat.le_trans bz hB.out.size
  clear hlk
  by_cases hlt : k < s.inn.length
  ·obtain ⟨b, o, rfl, hbb, e1, e2, hcap⟩ := AI.out wo Bw.out k hlt
   have hs := hs0.out hlt
   generalize s.inn[k] = q at *
   obtain ⟨q1, q2⟩ := q
   simp only at e1 e2 hs
   have hOa := Lib.hid (fun o => hO.out.below (Below.next_alloc (Below.refl _ wo) o))
   have hBa := Lib.hid (fun o => hB.out.alloc bz2 o)
   clear hs0 h17 h18 c24 c25
   by_cases hx1 : x ≤ q2
   ·by_cases hx2 : q2 < y
    ·rw [if_pos ⟨hx1, hx2⟩] at hs
     replace hs := Lib.hid hs
     go_wp2_with (first
      | (at_builtin; refine push_at rfl _ _ rfl (w2.heap.size + 1) (.slice al L.length gl) L rfl (hOa.out _) (wo.heap.size + 1) rfl (by simp) (Nat.le_trans hn5.out (by decide)) (Nat.le_trans bz2 (by simp)) ?_; intro v6 w6 hO6 hB6))
     go_roundw
     case rel => exact ⟨k + 1, by omega, by go_num, Lib.hid (by rw [hs.out]; exact hO6), Lib.hid ((hBa.out _).trans hB6)⟩
     case measure => simp [intOf]; omega
    ·rw [if_neg (fun h => hx2 h.2), List.append_nil] at hs
     replace hs := Lib.hid hs
     go_wp2
     go_roundw
     case rel => exact ⟨k + 1, by omega, by go_num, Lib.hid (by rw [hs.out]; exact hOa.out _), Lib.hid (hBa.out _)⟩
     case measure => simp [intOf]; omega
   ·rw [if_neg (fun h => hx1 h.1), List.append_nil] at hs
    replace hs := Lib.hid hs
    go_wp2
    go_roundw
    case rel => exact ⟨k + 1, by omega, by go_num, Lib.hid (by rw [hs.out]; exact hOa.out _), Lib.hid (hBa.out _)⟩
    case measure => simp [intOf]; omega
  ·have hr2 := hr.out
   rw [show m ++ within x y (secs s.inn) = L by rw [← hL.out, List.take_of_length_le (by omega)]] at hr2
   obtain ⟨-, -, s3⟩ := comp_spec L
   have hsl := Tm.sortI_length L
   have FSo := sortI_big hO.out bz2 (Nat.le_trans hn5.out (by decide))
   have FCo := fun (W : World) v (h : OwnI W (w2.heap.size + 1) v (Tm.sortI L)) (h2 : w2.heap.size + 1 ≤ W.heap.size) => compI_any h h2 (by have := hn5.out; omega) s3
   have hcl : (Lib.compact (Tm.sortI L)).length ≤ 1000000 := by have := hn5.out; omega
   generalize Tm.sortI L = L3 at *
   generalize Lib.compact L3 = L4 at *
   have zwl : w.heap.size < w2.heap.size + 1 := by have := B2.out.size; omega
   have k18 := (hB.out.cell (p := ⟨w.heap.size, 18, none⟩) zwl).trans h18
   have k24 := (hB.out.cell (p := ⟨w2.heap.size, 24, none⟩) (Nat.lt_succ_self _)).trans c24
   have FDel := fun (W : World) v (h : OwnI W (w2.heap.size + 1) v L4) (h2 : w2.heap.size + 1 ≤ W.heap.size) (h3 : Below w.heap.size w W) (h4 : W.cell? ⟨w.heap.size, 18, none⟩ = some (.slice ao s.out.length co)) =>
    deleteI_any (.pointer (some ⟨w.heap.size, 0, none⟩)) (fun t => decide (t ∈ secs s.out)) h h2 hcl (fun W2 hB2 t _ => FD.out W2 (h3.trans (hB2.mono zwb)) ((hB2.cell (p := ⟨w.heap.size, 18, none⟩) zwl).trans h4) t)
   replace FSo := Lib.hid FSo
   replace FCo := Lib.hid FCo
   replace FDel := Lib.hid FDel
   replace hr2 := Lib.hid hr2
   have k18h := Lib.hid k18
   clear hs0 hL hfl hfs hf0 s3 hsl h17 h18 c24 c25 FC FR FS AI k18
   go_wp2_with (first
    | (go_at_call 43; (with_reducible refine FSo.out.mono ?_); rintro e w5 ⟨rfl, hO5, hB5⟩; replace hO5 := Lib.hid hO5; have B5 := Lib.hid (Bw.out.trans (hB5.mono zwb)); have bz5 := Nat.le_trans bz2 hB5.size; have m18 := Lib.hid ((hB5.cell (p := ⟨w.heap.size, 18, none⟩) zwl).trans k18h.out); have m24 := (hB5.cell (p := ⟨w2.heap.size, 24, none⟩) (Nat.lt_succ_self _)).trans k24; clear hB5 k24)
    | (go_at_call 50; (with_reducible refine (FCo.out _ _ hO5.out bz5).mono ?_); rintro e w6 ⟨v6, rfl, hO6, hB6⟩; obtain ⟨a6, g6, hv6⟩ := hO6.slice; subst hv6; replace hO6 := Lib.hid hO6; have B6 := Lib.hid (B5.out.trans (hB6.mono zwb)); have bz6 := Nat.le_trans bz5 hB6.size; have n18 := Lib.hid ((hB6.cell (p := ⟨w.heap.size, 18, none⟩) zwl).trans m18.out); have n24 := (hB6.cell (p := ⟨w2.heap.size, 24, none⟩) (Nat.lt_succ_self _)).trans m24; clear hB6 m24)
    | (go_at_call 51; (with_reducible refine (FDel.out _ _ hO6.out bz6 B6.out n18.out).mono ?_); rintro e w7 ⟨v7, rfl, hO7, hB7⟩; obtain ⟨a7, g7, hv7⟩ := hO7.slice; subst hv7; replace hO7 := Lib.hid hO7; have B7 := Lib.hid (B6.out.trans (hB7.mono zwb)); have z7 := Nat.lt_of_lt_of_le (Nat.lt_of_succ_le bz6) hB7.size; have q24 := (hB7.cell (p := ⟨w2.heap.size, 24, none⟩) (Nat.lt_succ_self _)).trans n24; clear hB7 n24))
   go_region
   go_wp2
   go_ret3
   exact gives3_of (W := w7.drew) hO7.out hr2.out (Nat.le_trans zwb (Nat.le_refl _)) B7.out.drew
theorem walkQ_size (s : St) (a : Nat → Option Addr) (c : Nat → Nat) (x y bud : Int) (once : Bool) (used : Int) (v : Value) : (walkQ s a c x y bud once used v).size = 26 := rfl
theorem walkQ_one (s : St) (a : Nat → Option Addr) (c : Nat → Nat) (x y bud : Int) (once : Bool) : (walkQ s a c x y bud once 0 (.slice none 0 0)).all (·.oneCell') = true := oneWalk s a c x y (finS s) bud once
theorem run_new {w : World} {W : World} {s : St} {a : Nat → Option Addr} {c : Nat → Nat} {x y bud : Int} {once : Bool} (hT : Tab w) (hL : LS w s (svQ s.rule a c) (.slice (a 13) s.inn.length (c 13)) (.slice (a 14) s.out.length (c 14))) (hW : WS s) (hc : chkS s = 0) (hb0 : 0 ≤ bud) (hb1 : bud ≤ 4000) (hB : Below w.heap.size w W) :
  Calls Tryz.prog 49 #[.pointer (some ⟨W.heap.size, 0, none⟩)] (W.alloc (.cells (walkQ s a c x y bud once 0 (.slice none 0 0)) 93)) (GivesRun (W.alloc (.cells (walkQ s a c x y bud once 0 (.slice none 0 0)) 93)) W.heap.size s a c x y bud once (walk (pS s x y bud once))) := by
 have hB2 : ∀ W2, Below W.heap.size (W.alloc (.cells (walkQ s a c x y bud once 0 (.slice none 0 0)) 93)) W2 → Below w.heap.size w W2 := fun W2 h => (Below.next_alloc hB _).trans (h.mono hB.size)
 exact run_any s a c x y bud once (fun W2 h => hT.later (hB2 W2 h)) ⟨Blk.mk (Below.refl _ _), fun i => World.frozen?_alloc_new W _ _ i⟩ (fun W2 h => hL.later (hB2 W2 h)) hW hc hb0 hb1
theorem below_box {W W2 : World} {o : Obj} (h : Below W.heap.size (W.alloc o) W2) : Below W.heap.size W W2 := ((Below.refl W.heap.size W).alloc (Nat.le_refl _) o).trans h
theorem pwindow_any (w : World) (s : St) (a : Nat → Option Addr) (c : Nat → Nat) (x y bud : Int) (hT : Tab w) (hL : LS w s (svQ s.rule a c) (.slice (a 13) s.inn.length (c 13)) (.slice (a 14) s.out.length (c 14))) (hW : WS s) :
  Calls Tryz.prog 22 #[.agg (setQ s a c), .int .i64 x, .int .i64 y, .int .i64 bud] w (Gives3 w (winF s x y bud)) := by
 have FC : ∀ W, Below w.heap.size w W → Calls Tryz.prog 26 #[.agg (setQ s a c)] W fun e w' => e = .returned (.int .i64 (chkS s)) ∧ Below W.heap.size W w' := fun W hB => checkS_any W s (svQ s.rule a c) (.slice (a 13) s.inn.length (c 13)) (.slice (a 14) s.out.length (c 14)) (hL.later hB) hW
 by_cases hc : chkS s ≠ 0
 ·exact pwin_err w s (setQ s a c) (a 13) (a 14) (c 13) (c 14) x y bud rfl rfl rfl FC hc
 have hc' := Decidable.byContradiction hc
 by_cases hb : badW x y bud
 ·exact pwin_bad w s (setQ s a c) (a 13) (a 14) (c 13) (c 14) x y bud rfl rfl rfl FC hc' hb
 have hb' := hb
 unfold badW at hb'
 have FS : ∀ W, Below w.heap.size w W → Calls Tryz.prog 48 #[.agg (setQ s a c), .int .i64 x, .int .i64 y, .int .i64 bud, .bool false] W fun e w' => e = .returned (.agg (walkQ s a c x y bud false 0 (.slice none 0 0))) ∧ Below W.heap.size W w' := fun W _ => start_any W s a c x y bud false
 cases hw : walk (pS s x y bud false) with
 | none =>
  refine pwin_spent w s (setQ s a c) (a 13) (a 14) (c 13) (c 14) x y bud rfl rfl rfl FC _ (walkQ_size ..) (walkQ_one ..) FS (fun W hB => ?_) hc' hb hw
  refine (run_new (x := x) (y := y) (bud := bud) (once := false) hT hL hW hc' (by omega) (by omega) hB).mono fun e w' h => ?_
  unfold GivesRun at h
  rw [hw] at h
  exact ⟨h.2, below_box h.1⟩
 | some q =>
  obtain ⟨u, m⟩ := q
  have hl := walk_len (by omega) hw
  refine pwin_ok w s (setQ s a c) (a 13) (a 14) (c 13) (c 14) x y bud rfl rfl rfl FC _ (walkQ_size ..) (walkQ_one ..) FS hL.2.1 hL.2.2 hW.2.2.2.2.1 hW.2.2.2.2.2 u m (metW hW.1.2.1.1 hc' (by omega) hw) (by omega) (fun W hB => ?_) hc' hb hw
  refine (run_new (x := x) (y := y) (bud := bud) (once := false) hT hL hW hc' (by omega) (by omega) hB).mono fun e w' h => ?_
  unfold GivesRun at h
  rw [hw] at h
  obtain ⟨h1, h2, v, h3, h4⟩ := h
  exact ⟨v, h2, below_box h1, h3.1.2 24 _ rfl, h3.1.2 25 _ rfl, h4, h3.1.1⟩
end Go.Proofs.YtkbohijlhhpfbaaGreatDoor.Rs
/- The walks through Has, of rset and of the document (printed by gen_has.py). -/
namespace Go.Proofs.YtkbohijlhhpfbaaGreatDoor.Rs
open Go.RowKit Ru Ut Cw Ra Xp
set_option maxHeartbeats 8000000 in
set_option maxRecDepth 100000 in
theorem phas_core (w : World) (s : St) (SV : Array Value) (t bud : Int) (hsz : SV.size = 19)
  (FC : ∀ W, Below w.heap.size w W → Calls Tryz.prog 26 #[.agg SV] W fun e w' => e = .returned (.int .i64 (chkS s)) ∧ Below W.heap.size W w')
  (FW : ∀ W, Below w.heap.size w W → Calls Tryz.prog 22 #[.agg SV, .int .i64 t, .int .i64 (t + 1), .int .i64 bud] W (Gives3 W (winF s t (t + 1) bud))) :
  Calls Tryz.prog 24 #[.agg SV, .int .i64 t, .int .i64 bud] w fun e w' => e = .returned (.tuple #[.bool (hasF s t bud).1, .int .i64 (hasF s t bud).2]) ∧ Below w.heap.size w w' := by
 obtain ⟨dS, uS, rS⟩ := undSet
 have sS : (Tryz.prog.info? 48).map (·.size) = some SV.size := by rw [hsz]; exact sizeSet
 have BK : ∀ W, Below (w.alloc (.cells SV 48)).heap.size (w.alloc (.cells SV 48)) W → Blk W w.heap.size SV := fun W h => Blk.mk h
 replace uS := Lib.hid uS
 replace rS := Lib.hid rS
 replace sS := Lib.hid sS
 replace BK := Lib.hid BK
 replace FW : ∀ W, Below w.heap.size w W → Calls Tryz.prog 22 #[.agg SV, .int .i64 t, .int .i64 (t + 1), .int .i64 bud] W fun e w' => ∃ v, e = .returned (.tuple #[v, .int .i64 (winF s t (t + 1) bud).2.1, .int .i64 (winF s t (t + 1) bud).2.2]) ∧ OwnI w' W.heap.size v (winF s t (t + 1) bud).1 ∧ Below W.heap.size W w' := FW
 unfold hasF
 by_cases hc : chkS s ≠ 0
 ·rw [if_pos hc]
  have hq : (chkS s != 0) = true := by simp [hc]
  replace FC := Lib.hid FC
  clear hc hsz FW
  go_enter Tryz.func24, Tryz.ntmps24
  go_wp2_with (first
   | (refine wpList_load_arr rfl 48 _ rfl w.heap.size 0 rfl SV dS (Blk.range (BK.out _ (by first | exact Below.refl _ _ | assumption | exact hB1.out))) uS.out rS.out sS.out ?_)
   | (go_at_call 26; (with_reducible refine (FC.out _ (Below.next_alloc (Below.refl _ w) _)).mono ?_); rintro e w1 ⟨rfl, hB1⟩; have B1 := Lib.hid (Below.next (Below.next_alloc (Below.refl _ w) _) hB1); have z1 := hB1.size; replace hB1 := Lib.hid hB1))
  go_ret2
  exact ⟨rfl, B1.out⟩
 rw [if_neg hc]
 rw [Decidable.byContradiction hc] at FC
 replace FC := Lib.hid FC
 by_cases ht : t < 0 ∨ 315537897599 < t
 ·rw [if_pos ht]
  have h2 : t < 0 ∨ (0 ≤ t ∧ 315537897599 < t) := by omega
  clear hc hsz FW ht
  rcases h2 with h2 | ⟨h2, h3⟩
  all_goals
   as_aux_lemma =>
   go_enter Tryz.func24, Tryz.ntmps24
   go_wp2_with (first
    | (refine wpList_load_arr rfl 48 _ rfl w.heap.size 0 rfl SV dS (Blk.range (BK.out _ (by first | exact Below.refl _ _ | assumption | exact hB1.out))) uS.out rS.out sS.out ?_)
    | (go_at_call 26; (with_reducible refine (FC.out _ (Below.next_alloc (Below.refl _ w) _)).mono ?_); rintro e w1 ⟨rfl, hB1⟩; have B1 := Lib.hid (Below.next (Below.next_alloc (Below.refl _ w) _) hB1); have z1 := hB1.size; replace hB1 := Lib.hid hB1))
   go_ret2
   exact ⟨rfl, B1.out⟩
 ·rw [if_neg ht]
  have h2 : 0 ≤ t := by omega
  have h3 : ¬ 315537897599 < t := by omega
  clear hc hsz ht
  generalize winF s t (t + 1) bud = R at *
  obtain ⟨l, u, e0⟩ := R
  simp only at FW ⊢
  have hl : (0 < l.length) ∨ (l.length = 0) := by omega
  replace FW := Lib.hid FW
  rcases hl with hl | hl
  ·rw [decide_eq_true hl]
   go_enter Tryz.func24, Tryz.ntmps24
   go_wp2_with (first
    | (refine wpList_load_arr rfl 48 _ rfl w.heap.size 0 rfl SV dS (Blk.range (BK.out _ (by first | exact Below.refl _ _ | assumption | exact hB1.out))) uS.out rS.out sS.out ?_)
    | (go_at_call 26; (with_reducible refine (FC.out _ (Below.next_alloc (Below.refl _ w) _)).mono ?_); rintro e w1 ⟨rfl, hB1⟩; have B1 := Lib.hid (Below.next (Below.next_alloc (Below.refl _ w) _) hB1); have z1 := hB1.size; replace hB1 := Lib.hid hB1)
    | (go_at_call 22; (with_reducible refine (FW.out _ B1.out).mono ?_); rintro e w2 ⟨v2, rfl, hO2, hB2⟩; obtain ⟨a2, g2, hv2⟩ := hO2.slice; subst hv2; have B2 := Lib.hid (Below.next B1.out hB2)))
   go_ret2
   exact ⟨rfl, B2.out⟩
  ·rw [decide_eq_false (by omega)]
   go_enter Tryz.func24, Tryz.ntmps24
   go_wp2_with (first
    | (refine wpList_load_arr rfl 48 _ rfl w.heap.size 0 rfl SV dS (Blk.range (BK.out _ (by first | exact Below.refl _ _ | assumption | exact hB1.out))) uS.out rS.out sS.out ?_)
    | (go_at_call 26; (with_reducible refine (FC.out _ (Below.next_alloc (Below.refl _ w) _)).mono ?_); rintro e w1 ⟨rfl, hB1⟩; have B1 := Lib.hid (Below.next (Below.next_alloc (Below.refl _ w) _) hB1); have z1 := hB1.size; replace hB1 := Lib.hid hB1)
    | (go_at_call 22; (with_reducible refine (FW.out _ B1.out).mono ?_); rintro e w2 ⟨v2, rfl, hO2, hB2⟩; obtain ⟨a2, g2, hv2⟩ := hO2.slice; subst hv2; have B2 := Lib.hid (Below.next B1.out hB2)))
   go_ret2
   exact ⟨rfl, B2.out⟩
set_option maxHeartbeats 8000000 in
set_option maxRecDepth 100000 in
theorem rhas_core (w : World) (s : St) (SV : Array Value) (t bud : Int) (hsz : SV.size = 19)
  (FC : ∀ W, Below w.heap.size w W → Calls Tryz.prog 27 #[.agg SV] W fun e w' => e = .returned (.int .i64 (chkS s)) ∧ Below W.heap.size W w')
  (FW0 : ∀ p q W, Below w.heap.size w W → Calls Tryz.prog 23 #[.agg SV, .int .i64 p, .int .i64 q, .int .i64 bud] W (Gives3 W (winF s p q bud))) :
  Calls Tryz.prog 25 #[.agg SV, .int .i64 t, .int .i64 bud] w fun e w' => e = .returned (.tuple #[.bool (hasF s t bud).1, .int .i64 (hasF s t bud).2]) ∧ Below w.heap.size w w' := by
 obtain ⟨dS, uS, rS⟩ := undRSet
 have sS : (Tryz.prog.info? 43).map (·.size) = some SV.size := by rw [hsz]; exact sizeRSet
 have BK : ∀ W, Below (w.alloc (.cells SV 43)).heap.size (w.alloc (.cells SV 43)) W → Blk W w.heap.size SV := fun W h => Blk.mk h
 replace uS := Lib.hid uS
 replace rS := Lib.hid rS
 replace sS := Lib.hid sS
 replace BK := Lib.hid BK
 unfold hasF
 by_cases hc : chkS s ≠ 0
 ·rw [if_pos hc]
  have FW : ∀ p q W, Below w.heap.size w W → Calls Tryz.prog 23 #[.agg SV, .int .i64 p, .int .i64 q, .int .i64 bud] W fun e w' => ∃ v, e = .returned (.tuple #[v, .int .i64 0, .int .i64 (chkS s)]) ∧ OwnI w' W.heap.size v ([] : List Int) ∧ Below W.heap.size W w' := fun p q W hB => by
   have h := FW0 p q W hB
   rw [show winF s p q bud = ([], 0, chkS s) by unfold winF; rw [if_pos hc]] at h
   exact h
  have hq : (chkS s == 0) = false := by simp [hc]
  replace FC := Lib.hid FC
  replace FW := Lib.hid FW
  clear hc hsz FW0
  go_enter Tryz.func25, Tryz.ntmps25
  go_wp2_with (first
   | (refine wpList_load_arr rfl 43 _ rfl w.heap.size 0 rfl SV dS (Blk.range (BK.out _ (by first | exact Below.refl _ _ | assumption | exact hB1.out))) uS.out rS.out sS.out ?_)
   | (go_at_call 27; (with_reducible refine (FC.out _ (Below.next_alloc (Below.refl _ w) _)).mono ?_); rintro e w1 ⟨rfl, hB1⟩; have B1 := Lib.hid (Below.next (Below.next_alloc (Below.refl _ w) _) hB1); have z1 := hB1.size; replace hB1 := Lib.hid hB1)
   | (go_at_call 23; (with_reducible refine (FW.out _ _ _ B1.out).mono ?_); rintro e w2 ⟨v2, rfl, hO2, hB2⟩; obtain ⟨a2, g2, hv2⟩ := hO2.slice; subst hv2; have B2 := Lib.hid (Below.next B1.out hB2)))
  go_ret2
  exact ⟨rfl, B2.out⟩
 rw [if_neg hc]
 rw [Decidable.byContradiction hc] at FC
 replace FC := Lib.hid FC
 by_cases ht : t < 0 ∨ 315537897599 < t
 ·rw [if_pos ht]
  have h2 : t < 0 ∨ (0 ≤ t ∧ 315537897599 < t) := by omega
  clear hc hsz FW0 ht
  rcases h2 with h2 | ⟨h2, h3⟩
  all_goals
   as_aux_lemma =>
   go_enter Tryz.func25, Tryz.ntmps25
   go_wp2_with (first
    | (refine wpList_load_arr rfl 43 _ rfl w.heap.size 0 rfl SV dS (Blk.range (BK.out _ (by first | exact Below.refl _ _ | assumption | exact hB1.out))) uS.out rS.out sS.out ?_)
    | (go_at_call 27; (with_reducible refine (FC.out _ (Below.next_alloc (Below.refl _ w) _)).mono ?_); rintro e w1 ⟨rfl, hB1⟩; have B1 := Lib.hid (Below.next (Below.next_alloc (Below.refl _ w) _) hB1); have z1 := hB1.size; replace hB1 := Lib.hid hB1))
   go_ret2
   exact ⟨rfl, B1.out⟩
 ·rw [if_neg ht]
  have h2 : 0 ≤ t := by omega
  have h3 : ¬ 315537897599 < t := by omega
  have e1 : min 315537897599 t = t := by omega
  have e2 : max (-1) t = t := by omega
  have FW : ∀ W, Below w.heap.size w W → Calls Tryz.prog 23 #[.agg SV, .int .i64 t, .int .i64 (t + 1), .int .i64 bud] W fun e w' => ∃ v, e = .returned (.tuple #[v, .int .i64 (winF s t (t + 1) bud).2.1, .int .i64 (winF s t (t + 1) bud).2.2]) ∧ OwnI w' W.heap.size v (winF s t (t + 1) bud).1 ∧ Below W.heap.size W w' := fun W hB => FW0 t (t + 1) W hB
  clear hc hsz ht FW0
  generalize winF s t (t + 1) bud = R at *
  obtain ⟨l, u, e0⟩ := R
  simp only at FW ⊢
  have hl : (0 < l.length) ∨ (l.length = 0) := by omega
  replace FW := Lib.hid FW
  rcases hl with hl | hl
  ·rw [decide_eq_true hl]
   go_enter Tryz.func25, Tryz.ntmps25
   go_wp2_with (first
    | (refine wpList_load_arr rfl 43 _ rfl w.heap.size 0 rfl SV dS (Blk.range (BK.out _ (by first | exact Below.refl _ _ | assumption | exact hB1.out))) uS.out rS.out sS.out ?_)
    | (go_at_call 27; (with_reducible refine (FC.out _ (Below.next_alloc (Below.refl _ w) _)).mono ?_); rintro e w1 ⟨rfl, hB1⟩; have B1 := Lib.hid (Below.next (Below.next_alloc (Below.refl _ w) _) hB1); have z1 := hB1.size; replace hB1 := Lib.hid hB1)
    | (go_at_call 23; (with_reducible refine (FW.out _ B1.out).mono ?_); rintro e w2 ⟨v2, rfl, hO2, hB2⟩; obtain ⟨a2, g2, hv2⟩ := hO2.slice; subst hv2; have B2 := Lib.hid (Below.next B1.out hB2)))
   go_ret2
   exact ⟨rfl, B2.out⟩
  ·rw [decide_eq_false (by omega)]
   go_enter Tryz.func25, Tryz.ntmps25
   go_wp2_with (first
    | (refine wpList_load_arr rfl 43 _ rfl w.heap.size 0 rfl SV dS (Blk.range (BK.out _ (by first | exact Below.refl _ _ | assumption | exact hB1.out))) uS.out rS.out sS.out ?_)
    | (go_at_call 27; (with_reducible refine (FC.out _ (Below.next_alloc (Below.refl _ w) _)).mono ?_); rintro e w1 ⟨rfl, hB1⟩; have B1 := Lib.hid (Below.next (Below.next_alloc (Below.refl _ w) _) hB1); have z1 := hB1.size; replace hB1 := Lib.hid hB1)
    | (go_at_call 23; (with_reducible refine (FW.out _ B1.out).mono ?_); rintro e w2 ⟨v2, rfl, hO2, hB2⟩; obtain ⟨a2, g2, hv2⟩ := hO2.slice; subst hv2; have B2 := Lib.hid (Below.next B1.out hB2)))
   go_ret2
   exact ⟨rfl, B2.out⟩
theorem phas_any (w : World) (s : St) (a : Nat → Option Addr) (c : Nat → Nat) (t bud : Int) (hT : Tab w) (hL : LS w s (svQ s.rule a c) (.slice (a 13) s.inn.length (c 13)) (.slice (a 14) s.out.length (c 14))) (hW : WS s) :
  Calls Tryz.prog 24 #[.agg (setQ s a c), .int .i64 t, .int .i64 bud] w fun e w' => e = .returned (.tuple #[.bool (hasF s t bud).1, .int .i64 (hasF s t bud).2]) ∧ Below w.heap.size w w' :=
 phas_core w s (setQ s a c) t bud rfl (fun W hB => checkS_any W s (svQ s.rule a c) (.slice (a 13) s.inn.length (c 13)) (.slice (a 14) s.out.length (c 14)) (hL.later hB) hW) (fun W hB => pwindow_any W s a c t (t + 1) bud (hT.later hB) (hL.later hB) hW)
theorem rhasS_any (w : World) (s : St) (a : Nat → Option Addr) (c : Nat → Nat) (t bud : Int) (hL : LS w s (svQ s.rule a c) (.slice (a 13) s.inn.length (c 13)) (.slice (a 14) s.out.length (c 14))) (hW : WS s) :
  Calls Tryz.prog 25 #[.agg (setQ s a c), .int .i64 t, .int .i64 bud] w fun e w' => e = .returned (.tuple #[.bool (hasF s t bud).1, .int .i64 (hasF s t bud).2]) ∧ Below w.heap.size w w' :=
 rhas_core w s (setQ s a c) t bud rfl (fun W hB => rcheckS_any W s a c (hL.later hB) hW) (fun p q W hB => rwindow_any W s a c p q bud (hL.later hB) hW)
end Go.Proofs.YtkbohijlhhpfbaaGreatDoor.Rs
/- The walk through rset's Next (printed by gen_pnext.py). -/
namespace Go.Proofs.YtkbohijlhhpfbaaGreatDoor.Rs
open Go.RowKit Ru Ut Cw Ra Xp
theorem walk_mem {s : St} {x y bud : Int} {once : Bool} {u : Int} {m : List Int} (f0 : 0 ≤ s.rule.freq) (hc : chkS s = 0) (hx : 0 ≤ x) (h : walk (pS s x y bud once) = some (u, m)) : ∀ t ∈ m, x ≤ t ∧ t < y := by
 rw [walk_eq (fineS f0 hc x y bud once) hx h]
 intro t ht
 unfold met at ht
 have h2 := (List.mem_filter.1 ht).2
 unfold hit pS at h2
 simpa using h2
theorem free_end {s : St} {x y bud : Int} {u : Int} {m : List Int} (f0 : 0 ≤ s.rule.freq) (hc : chkS s = 0) (hx : 0 ≤ x) (h : walk (pS s x y bud true) = some (u, m)) : freeS s m = match m.getLast? with
  | none => none
  | some t => if t ∈ secs s.out then none else some t := by
 have e := walk_eq (fineS f0 hc x y bud true) hx h
 have h1 := free_first (p := pS s x y bud true) rfl (rul (pS s x y bud true))
 have h2 := free_last (p := pS s x y bud true) rfl (rul (pS s x y bud true))
 rw [← e] at h1 h2
 rw [← h1] at h2
 exact h2
set_option maxHeartbeats 8000000 in
set_option maxRecDepth 100000 in
theorem pnext_err (w : World) (s : St) (SV : Array Value) (ai ao : Option Addr) (ci co : Nat) (after bud : Int) (hsz : SV.size = 19) (h17 : SV[17]? = some (.slice ai s.inn.length ci)) (h18 : SV[18]? = some (.slice ao s.out.length co))
  (FC : ∀ W, Below w.heap.size w W → Calls Tryz.prog 26 #[.agg SV] W fun e w' => e = .returned (.int .i64 (chkS s)) ∧ Below W.heap.size W w') (hc : chkS s ≠ 0) :
  Calls Tryz.prog 28 #[.agg SV, .int .i64 after, .int .i64 bud] w (fun e w' => e = .returned (.tuple #[.int .i64 (nextF s after bud).1, .bool (nextF s after bud).2.1, .int .i64 (nextF s after bud).2.2]) ∧ Below w.heap.size w w') := by
 obtain ⟨dS, uS, rS⟩ := undSet
 have sS : (Tryz.prog.info? 48).map (·.size) = some SV.size := by rw [hsz]; exact sizeSet
 have BK : ∀ W, Below (w.alloc (.cells SV 48)).heap.size (w.alloc (.cells SV 48)) W → Blk W w.heap.size SV := fun W h => Blk.mk h
 replace uS := Lib.hid uS
 replace rS := Lib.hid rS
 replace sS := Lib.hid sS
 replace BK := Lib.hid BK
 have hs17 := Lib.hid h17
 have hs18 := Lib.hid h18
 clear h17 h18
 rw [show nextF s after bud = (0, false, chkS s) by unfold nextF; rw [if_pos hc]]
 have hq : (chkS s != 0) = true := by simp [hc]
 replace FC := Lib.hid FC
 clear hc hsz
 go_enter Tryz.func28, Tryz.ntmps28
 go_wp2_with (first
  | (refine wpList_load_arr rfl 48 _ rfl w.heap.size 0 rfl SV dS (Blk.range (BK.out _ (by first | exact Below.refl _ _ | assumption | exact hB1.out | exact hB1c.out))) uS.out rS.out sS.out ?_)
  | (go_at_call 26; (with_reducible refine (FC.out _ (Below.next_alloc (Below.refl _ w) _)).mono ?_); rintro e w1 ⟨rfl, hB1⟩; have K1 := Lib.hid (BK.out w1 hB1); have B1 := Lib.hid (Below.next (Below.next_alloc (Below.refl _ w) _) hB1); replace hB1 := Lib.hid hB1; have h17 := K1.out.2 17 _ hs17.out; have h18 := K1.out.2 18 _ hs18.out; have z1 := K1.out.1))
 go_ret3
 exact ⟨rfl, B1.out⟩
set_option maxHeartbeats 8000000 in
set_option maxRecDepth 100000 in
theorem pnext_bad (w : World) (s : St) (SV : Array Value) (ai ao : Option Addr) (ci co : Nat) (after bud : Int) (hsz : SV.size = 19) (h17 : SV[17]? = some (.slice ai s.inn.length ci)) (h18 : SV[18]? = some (.slice ao s.out.length co))
  (FC : ∀ W, Below w.heap.size w W → Calls Tryz.prog 26 #[.agg SV] W fun e w' => e = .returned (.int .i64 (chkS s)) ∧ Below W.heap.size W w') (hc : chkS s = 0) (hb : badN after bud) :
  Calls Tryz.prog 28 #[.agg SV, .int .i64 after, .int .i64 bud] w (fun e w' => e = .returned (.tuple #[.int .i64 (nextF s after bud).1, .bool (nextF s after bud).2.1, .int .i64 (nextF s after bud).2.2]) ∧ Below w.heap.size w w') := by
 obtain ⟨dS, uS, rS⟩ := undSet
 have sS : (Tryz.prog.info? 48).map (·.size) = some SV.size := by rw [hsz]; exact sizeSet
 have BK : ∀ W, Below (w.alloc (.cells SV 48)).heap.size (w.alloc (.cells SV 48)) W → Blk W w.heap.size SV := fun W h => Blk.mk h
 replace uS := Lib.hid uS
 replace rS := Lib.hid rS
 replace sS := Lib.hid sS
 replace BK := Lib.hid BK
 have hs17 := Lib.hid h17
 have hs18 := Lib.hid h18
 clear h17 h18
 rw [show nextF s after bud = (0, false, 8) by unfold nextF; rw [if_neg (by simp [hc]), if_pos hb]]
 rw [hc] at FC
 replace FC := Lib.hid FC
 have FP0 := fun W => spans_any bud W
 have h2 : after < -1 ∨ (-1 ≤ after ∧ 315537897599 < after) ∨ (-1 ≤ after ∧ ¬ 315537897599 < after ∧ ¬ (0 ≤ bud ∧ bud ≤ 4000)) := by unfold badN at hb; omega
 clear hc hsz hb
 rcases h2 with h2 | ⟨h2, h3⟩ | ⟨h2, h3, h4⟩
 rotate_left 2
 ·rw [show (decide (0 ≤ bud) && decide (bud ≤ 4000)) = false by rw [Bool.and_eq_false_iff, decide_eq_false_iff_not, decide_eq_false_iff_not]; omega] at FP0
  have FP := Lib.hid FP0
  clear FP0 h4
  as_aux_lemma =>
  go_enter Tryz.func28, Tryz.ntmps28
  go_wp2_with (first
   | (refine wpList_load_arr rfl 48 _ rfl w.heap.size 0 rfl SV dS (Blk.range (BK.out _ (by first | exact Below.refl _ _ | assumption | exact hB1.out | exact hB1c.out))) uS.out rS.out sS.out ?_)
   | (go_at_call 26; (with_reducible refine (FC.out _ (Below.next_alloc (Below.refl _ w) _)).mono ?_); rintro e w1 ⟨rfl, hB1⟩; have K1 := Lib.hid (BK.out w1 hB1); have B1 := Lib.hid (Below.next (Below.next_alloc (Below.refl _ w) _) hB1); replace hB1 := Lib.hid hB1; have h17 := K1.out.2 17 _ hs17.out; have h18 := K1.out.2 18 _ hs18.out; have z1 := K1.out.1)
   | (go_at_call 47; (with_reducible refine (FP.out _).mono ?_); rintro e ws ⟨rfl, rfl⟩))
  go_ret3
  exact ⟨rfl, B1.out⟩
 all_goals
  clear FP0
  as_aux_lemma =>
  go_enter Tryz.func28, Tryz.ntmps28
  go_wp2_with (first
   | (refine wpList_load_arr rfl 48 _ rfl w.heap.size 0 rfl SV dS (Blk.range (BK.out _ (by first | exact Below.refl _ _ | assumption | exact hB1.out | exact hB1c.out))) uS.out rS.out sS.out ?_)
   | (go_at_call 26; (with_reducible refine (FC.out _ (Below.next_alloc (Below.refl _ w) _)).mono ?_); rintro e w1 ⟨rfl, hB1⟩; have K1 := Lib.hid (BK.out w1 hB1); have B1 := Lib.hid (Below.next (Below.next_alloc (Below.refl _ w) _) hB1); replace hB1 := Lib.hid hB1; have h17 := K1.out.2 17 _ hs17.out; have h18 := K1.out.2 18 _ hs18.out; have z1 := K1.out.1))
  go_ret3
  exact ⟨rfl, B1.out⟩
set_option maxHeartbeats 8000000 in
set_option maxRecDepth 100000 in
theorem pnext_spent (w : World) (s : St) (SV : Array Value) (ai ao : Option Addr) (ci co : Nat) (after bud : Int) (hsz : SV.size = 19) (h17 : SV[17]? = some (.slice ai s.inn.length ci)) (h18 : SV[18]? = some (.slice ao s.out.length co))
  (FC : ∀ W, Below w.heap.size w W → Calls Tryz.prog 26 #[.agg SV] W fun e w' => e = .returned (.int .i64 (chkS s)) ∧ Below W.heap.size W w')
  (VI : Vals w (.slice ai s.inn.length ci) s.inn) (VO : Vals w (.slice ao s.out.length co) s.out) (hni : s.inn.length ≤ 1000) (hno : s.out.length ≤ 1000) (hins : ∀ t ∈ secs s.inn, 0 ≤ t ∧ t ≤ 315537897599)
  (WQ : Array Value) (hWs : WQ.size = 26) (hW1 : WQ.all (·.oneCell') = true) (FS : ∀ W, Below w.heap.size w W → Calls Tryz.prog 48 #[.agg SV, .int .i64 (after + 1), .int .i64 (best s after), .int .i64 bud, .bool true] W fun e w' => e = .returned (.agg WQ) ∧ Below W.heap.size W w')
  (FR : ∀ W, Below w.heap.size w W → Calls Tryz.prog 49 #[.pointer (some ⟨W.heap.size, 0, none⟩)] (W.alloc (.cells WQ 93)) fun e w' => e = .returned (.int .i64 13) ∧ Below W.heap.size W w') (hc : chkS s = 0) (hb : ¬ badN after bud) (hw : walk (pS s (after + 1) (best s after) bud true) = none) :
  Calls Tryz.prog 28 #[.agg SV, .int .i64 after, .int .i64 bud] w (fun e w' => e = .returned (.tuple #[.int .i64 (nextF s after bud).1, .bool (nextF s after bud).2.1, .int .i64 (nextF s after bud).2.2]) ∧ Below w.heap.size w w') := by
 obtain ⟨dS, uS, rS⟩ := undSet
 have sS : (Tryz.prog.info? 48).map (·.size) = some SV.size := by rw [hsz]; exact sizeSet
 have BK : ∀ W, Below (w.alloc (.cells SV 48)).heap.size (w.alloc (.cells SV 48)) W → Blk W w.heap.size SV := fun W h => Blk.mk h
 replace uS := Lib.hid uS
 replace rS := Lib.hid rS
 replace sS := Lib.hid sS
 replace BK := Lib.hid BK
 have hs17 := Lib.hid h17
 have hs18 := Lib.hid h18
 clear h17 h18
 have sW : (Tryz.prog.info? 93).map (·.size) = some WQ.size := by rw [hWs]; exact sizeWalk
 replace sW := Lib.hid sW
 replace hWs := Lib.hid hWs
 replace hW1 := Lib.hid hW1
 have h2 : -1 ≤ after ∧ ¬ 315537897599 < after ∧ 0 ≤ bud ∧ bud ≤ 4000 := by unfold badN at hb; omega
 obtain ⟨h2, h3, h4, h5⟩ := h2
 have t1 : decide (after < -1) = false := decide_eq_false (by omega)
 have t2 : decide (315537897599 < after) = false := decide_eq_false h3
 have FP0 := fun W => spans_any bud W
 rw [show (decide (0 ≤ bud) && decide (bud ≤ 4000)) = true by rw [decide_eq_true h4, decide_eq_true h5]; rfl] at FP0
 have FP := Lib.hid FP0
 clear FP0
 have AI := Lib.hid (fun W (h : Below w.heap.size w W) k (hk : k < s.inn.length) => VI.at rfl h hk)
 have FH := Lib.hid (fun t W (h : Below w.heap.size w W) => at_any t (VO.below h) (by omega))
 have hbs := Lib.hid (fun k (hk : k < s.inn.length) => best_snoc (secs s.out) after 315537897600 hk)
 have hbe := Lib.hid (show bestTo (secs s.out) after 315537897600 (secs (s.inn.take s.inn.length)) = best s after by rw [List.take_length]; rfl)
 have hb0 := Lib.hid (show bestTo (secs s.out) after 315537897600 (secs (s.inn.take 0)) = 315537897600 by simp [secs, bestTo])
 have hin0 := Lib.hid (fun k (hk : k < s.inn.length) => hins _ (secs_mem (List.getElem_mem hk)))
 have hr : nextF s after bud = (0, false, 13) := by unfold nextF; rw [if_neg (by simp [hc]), if_neg hb, hw]
 rw [hr]
 rw [hc] at FC
 replace FC := Lib.hid FC
 replace FR := Lib.hid FR
 clear VI VO hc hsz hb hw hr hins
 generalize best s after = by0 at *
 replace FS := Lib.hid FS
 focus
  go_enter Tryz.func28, Tryz.ntmps28
  go_wp2_with (first
   | (refine wpList_load_arr rfl 48 _ rfl w.heap.size 0 rfl SV dS (Blk.range (BK.out _ (by first | exact Below.refl _ _ | assumption | exact hB1.out | exact hB1c.out))) uS.out rS.out sS.out ?_)
   | (go_at_call 26; (with_reducible refine (FC.out _ (Below.next_alloc (Below.refl _ w) _)).mono ?_); rintro e w1 ⟨rfl, hB1⟩; have K1 := Lib.hid (BK.out w1 hB1); have B1 := Lib.hid (Below.next (Below.next_alloc (Below.refl _ w) _) hB1); replace hB1 := Lib.hid hB1; have h17 := K1.out.2 17 _ hs17.out; have h18 := K1.out.2 18 _ hs18.out; have z1 := K1.out.1)
   | (go_at_call 47; (with_reducible refine (FP.out _).mono ?_); rintro e ws ⟨rfl, rfl⟩))
  go_loopw [10, 35] (fun vb vi wr => ∃ (k : Nat) (b0 : Int), k ≤ s.inn.length ∧ vi = .int .i64 k ∧ vb = .int .i64 b0 ∧ b0 ≤ 315537897600 ∧ Hid (bestTo (secs s.out) after 315537897600 (secs (s.inn.take k)) = b0) ∧ Hid (Below w1.heap.size w1 wr)) (fun _ vi _ => s.inn.length - (intOf vi).toNat)
  case atStart => exact ⟨0, 315537897600, by omega, rfl, rfl, by omega, hb0, Lib.hid (Below.refl _ _)⟩
  case round =>
   obtain ⟨k, b0, hk, rfl, rfl, hb00, hbk, hB⟩ := hrel
   obtain ⟨wo, rfl⟩ : ∃ q, q = wr := ⟨_, rfl⟩
   have Bw := Lib.hid (Below.next B1.out hB.out)
   have KO := Lib.hid (K1.out.later hB.out K1.out.1)
   have hB1c := Lib.hid (Below.next hB1.out hB.out)
   have g17 := KO.out.2 17 _ hs17.out
   have g18 := KO.out.2 18 _ hs18.out
   have z3 := KO.out.1
   clear h17 h18 z1
   by_cases hlt : k < s.inn.length
   ·obtain ⟨b, o, rfl, hbb, e1, e2, hcap⟩ := AI.out wo Bw.out k hlt
    have hs := hbs.out k hlt
    have hq0 := hin0.out k hlt
    rw [hbk.out] at hs
    generalize s.inn[k] = q at *
    obtain ⟨q1, q2⟩ := q
    simp only at e1 e2 hs hq0
    have hBa := Lib.hid (fun o => hB.out.trans ((Below.refl wo.heap.size wo).alloc (Nat.le_refl _) o |>.mono hB.out.size))
    have FHq := fun o => FH.out q2 (wo.alloc o) (Below.next_alloc Bw.out o)
    by_cases hx1 : after < q2
    ·by_cases hx2 : q2 < b0
     ·by_cases hx3 : q2 ∈ secs s.out
      ·rw [if_neg (fun h => h.2.2 hx3)] at hs
       rw [decide_eq_true hx3] at FHq
       replace hs := Lib.hid hs
       replace FHq := Lib.hid FHq
       clear hx3
       go_wp2_with (first
        | (go_at_call 53; (with_reducible refine (FHq.out _).mono ?_); rintro e w3 ⟨rfl, hB3⟩; have m1 : w3.cell? ⟨wo.heap.size, 1, none⟩ = some (.int .i64 q2) := (hB3.cell (p := ⟨wo.heap.size, 1, none⟩) (by simp)).trans (World.cell?_alloc_new wo _ _ 1); have m9 : wo.heap.size < w3.heap.size := Nat.lt_of_lt_of_le (by simp) hB3.size; replace hB3 := Lib.hid (Lib.hid ((hBa.out _).trans (hB3.mono (Nat.le_trans hB.out.size (by simp)))))))
       go_roundw
       case rel => exact ⟨k + 1, b0, by omega, by go_num, rfl, hb00, hs, hB3.out⟩
       case measure => simp [intOf]; omega
      ·rw [if_pos ⟨hx1, hx2, hx3⟩] at hs
       rw [decide_eq_false hx3] at FHq
       replace hs := Lib.hid hs
       replace FHq := Lib.hid FHq
       clear hx3
       go_wp2_with (first
        | (go_at_call 53; (with_reducible refine (FHq.out _).mono ?_); rintro e w3 ⟨rfl, hB3⟩; have m1 : w3.cell? ⟨wo.heap.size, 1, none⟩ = some (.int .i64 q2) := (hB3.cell (p := ⟨wo.heap.size, 1, none⟩) (by simp)).trans (World.cell?_alloc_new wo _ _ 1); have m9 : wo.heap.size < w3.heap.size := Nat.lt_of_lt_of_le (by simp) hB3.size; replace hB3 := Lib.hid (Lib.hid ((hBa.out _).trans (hB3.mono (Nat.le_trans hB.out.size (by simp)))))))
       go_roundw
       case rel => exact ⟨k + 1, q2, by omega, by go_num, rfl, by omega, hs, hB3.out⟩
       case measure => simp [intOf]; omega
     ·rw [if_neg (fun h => hx2 h.2.1)] at hs
      replace hs := Lib.hid hs
      clear FHq
      go_wp2
      go_roundw
      case rel => exact ⟨k + 1, b0, by omega, by go_num, rfl, hb00, hs, Lib.hid (hBa.out _)⟩
      case measure => simp [intOf]; omega
    ·rw [if_neg (fun h => hx1 h.1)] at hs
     replace hs := Lib.hid hs
     clear FHq
     go_wp2
     go_roundw
     case rel => exact ⟨k + 1, b0, by omega, by go_num, rfl, hb00, hs, Lib.hid (hBa.out _)⟩
     case measure => simp [intOf]; omega
   ·have hbb0 : b0 = by0 := by rw [← hbk.out, ← hbe.out, show k = s.inn.length by omega]
    subst hbb0
    clear hbs hbe hb0 hbk hin0 AI FC
    go_wp2_with (first
     | (refine wpList_load_arr rfl 48 _ rfl w.heap.size 0 rfl SV dS (Blk.range (BK.out _ (by first | exact Below.refl _ _ | assumption | exact hB1.out | exact hB1c.out))) uS.out rS.out sS.out ?_)
     | (go_at_call 48; (with_reducible refine (FS.out _ Bw.out).mono ?_); rintro e w2 ⟨rfl, hB2⟩; have K2 := Lib.hid (KO.out.later hB2 KO.out.1); have B2 := Lib.hid (Below.next Bw.out hB2); have z12 := hB2.size; clear hB2 g17 g18 z3; have z2 := K2.out.1)
     | (refine wpList_store_new rfl 93 _ _ rfl WQ w2.heap.size rfl rfl rfl sW.out (by rw [hWs.out]; rfl) hW1.out ?_)
     | (go_at_call 49; (with_reducible refine (FR.out w2 B2.out).mono ?_); rintro e w4 ⟨rfl, hB4⟩; have B4 := Lib.hid (B2.out.trans (hB4.mono B2.out.size))))
    go_ret3
    exact ⟨rfl, B4.out⟩
end Go.Proofs.YtkbohijlhhpfbaaGreatDoor.Rs
/- The walk through rset's Next (printed by gen_pnext.py). -/
namespace Go.Proofs.YtkbohijlhhpfbaaGreatDoor.Rs
open Go.RowKit Ru Ut Cw Ra Xp
set_option maxHeartbeats 8000000 in
set_option maxRecDepth 100000 in
theorem pnext_ok (w : World) (s : St) (SV : Array Value) (ai ao : Option Addr) (ci co : Nat) (after bud : Int) (hsz : SV.size = 19) (h17 : SV[17]? = some (.slice ai s.inn.length ci)) (h18 : SV[18]? = some (.slice ao s.out.length co))
  (FC : ∀ W, Below w.heap.size w W → Calls Tryz.prog 26 #[.agg SV] W fun e w' => e = .returned (.int .i64 (chkS s)) ∧ Below W.heap.size W w')
  (VI : Vals w (.slice ai s.inn.length ci) s.inn) (VO : Vals w (.slice ao s.out.length co) s.out) (hni : s.inn.length ≤ 1000) (hno : s.out.length ≤ 1000) (hins : ∀ t ∈ secs s.inn, 0 ≤ t ∧ t ≤ 315537897599)
  (WQ : Array Value) (hWs : WQ.size = 26) (hW1 : WQ.all (·.oneCell') = true) (FS : ∀ W, Below w.heap.size w W → Calls Tryz.prog 48 #[.agg SV, .int .i64 (after + 1), .int .i64 (best s after), .int .i64 bud, .bool true] W fun e w' => e = .returned (.agg WQ) ∧ Below W.heap.size W w')
  (u : Int) (m : List Int) (hm : (m.length : Int) ≤ 4000) (hmm : ∀ t ∈ m, t ≤ 315537897599)
  (FR : ∀ W, Below w.heap.size w W → Calls Tryz.prog 49 #[.pointer (some ⟨W.heap.size, 0, none⟩)] (W.alloc (.cells WQ 93)) fun e w' => ∃ v, e = .returned (.int .i64 0) ∧ Below W.heap.size W w' ∧ w'.cell? ⟨W.heap.size, 25, none⟩ = some v ∧ OwnI w' (W.heap.size + 1) v m ∧ W.heap.size < w'.heap.size) (hc : chkS s = 0) (hb : ¬ badN after bud) (hw : walk (pS s (after + 1) (best s after) bud true) = some (u, m))
  (hfe : freeS s m = match m.getLast? with
   | none => none
   | some t => if t ∈ secs s.out then none else some t) :
  Calls Tryz.prog 28 #[.agg SV, .int .i64 after, .int .i64 bud] w (fun e w' => e = .returned (.tuple #[.int .i64 (nextF s after bud).1, .bool (nextF s after bud).2.1, .int .i64 (nextF s after bud).2.2]) ∧ Below w.heap.size w w') := by
 obtain ⟨dS, uS, rS⟩ := undSet
 have sS : (Tryz.prog.info? 48).map (·.size) = some SV.size := by rw [hsz]; exact sizeSet
 have BK : ∀ W, Below (w.alloc (.cells SV 48)).heap.size (w.alloc (.cells SV 48)) W → Blk W w.heap.size SV := fun W h => Blk.mk h
 replace uS := Lib.hid uS
 replace rS := Lib.hid rS
 replace sS := Lib.hid sS
 replace BK := Lib.hid BK
 have hs17 := Lib.hid h17
 have hs18 := Lib.hid h18
 clear h17 h18
 have sW : (Tryz.prog.info? 93).map (·.size) = some WQ.size := by rw [hWs]; exact sizeWalk
 replace sW := Lib.hid sW
 replace hWs := Lib.hid hWs
 replace hW1 := Lib.hid hW1
 have h2 : -1 ≤ after ∧ ¬ 315537897599 < after ∧ 0 ≤ bud ∧ bud ≤ 4000 := by unfold badN at hb; omega
 obtain ⟨h2, h3, h4, h5⟩ := h2
 have t1 : decide (after < -1) = false := decide_eq_false (by omega)
 have t2 : decide (315537897599 < after) = false := decide_eq_false h3
 have FP0 := fun W => spans_any bud W
 rw [show (decide (0 ≤ bud) && decide (bud ≤ 4000)) = true by rw [decide_eq_true h4, decide_eq_true h5]; rfl] at FP0
 have FP := Lib.hid FP0
 clear FP0
 have AI := Lib.hid (fun W (h : Below w.heap.size w W) k (hk : k < s.inn.length) => VI.at rfl h hk)
 have FH := Lib.hid (fun t W (h : Below w.heap.size w W) => at_any t (VO.below h) (by omega))
 have hbs := Lib.hid (fun k (hk : k < s.inn.length) => best_snoc (secs s.out) after 315537897600 hk)
 have hbe := Lib.hid (show bestTo (secs s.out) after 315537897600 (secs (s.inn.take s.inn.length)) = best s after by rw [List.take_length]; rfl)
 have hb0 := Lib.hid (show bestTo (secs s.out) after 315537897600 (secs (s.inn.take 0)) = 315537897600 by simp [secs, bestTo])
 have hin0 := Lib.hid (fun k (hk : k < s.inn.length) => hins _ (secs_mem (List.getElem_mem hk)))
 have hr : nextF s after bud = endN s after m := by unfold nextF; rw [if_neg (by simp [hc]), if_neg hb, hw]
 have hn0 := Lib.hid (fun h : freeS s m = none => (show endN s after m = if best s after ≤ 315537897599 then (best s after, true, 0) else (0, false, 0) by unfold endN; rw [h]))
 have hn1 := Lib.hid (fun t (h : freeS s m = some t) => (show endN s after m = (t, true, 0) by unfold endN; rw [h]))
 rw [hr]
 rw [hc] at FC
 replace FC := Lib.hid FC
 replace FR := Lib.hid FR
 clear VI VO hc hsz hb hw hr hins
 generalize best s after = by0 at *
 generalize endN s after m = R at *
 generalize freeS s m = fr at *
 replace FS := Lib.hid FS
 replace hfe := Lib.hid hfe
 replace hmm := Lib.hid hmm
 focus
  go_enter Tryz.func28, Tryz.ntmps28
  go_wp2_with (first
   | (refine wpList_load_arr rfl 48 _ rfl w.heap.size 0 rfl SV dS (Blk.range (BK.out _ (by first | exact Below.refl _ _ | assumption | exact hB1.out | exact hB1c.out))) uS.out rS.out sS.out ?_)
   | (go_at_call 26; (with_reducible refine (FC.out _ (Below.next_alloc (Below.refl _ w) _)).mono ?_); rintro e w1 ⟨rfl, hB1⟩; have K1 := Lib.hid (BK.out w1 hB1); have B1 := Lib.hid (Below.next (Below.next_alloc (Below.refl _ w) _) hB1); replace hB1 := Lib.hid hB1; have h17 := K1.out.2 17 _ hs17.out; have h18 := K1.out.2 18 _ hs18.out; have z1 := K1.out.1)
   | (go_at_call 47; (with_reducible refine (FP.out _).mono ?_); rintro e ws ⟨rfl, rfl⟩))
  go_loopw [10, 35] (fun vb vi wr => ∃ (k : Nat) (b0 : Int), k ≤ s.inn.length ∧ vi = .int .i64 k ∧ vb = .int .i64 b0 ∧ b0 ≤ 315537897600 ∧ Hid (bestTo (secs s.out) after 315537897600 (secs (s.inn.take k)) = b0) ∧ Hid (Below w1.heap.size w1 wr)) (fun _ vi _ => s.inn.length - (intOf vi).toNat)
  case atStart => exact ⟨0, 315537897600, by omega, rfl, rfl, by omega, hb0, Lib.hid (Below.refl _ _)⟩
  case round =>
   obtain ⟨k, b0, hk, rfl, rfl, hb00, hbk, hB⟩ := hrel
   obtain ⟨wo, rfl⟩ : ∃ q, q = wr := ⟨_, rfl⟩
   have Bw := Lib.hid (Below.next B1.out hB.out)
   have KO := Lib.hid (K1.out.later hB.out K1.out.1)
   have hB1c := Lib.hid (Below.next hB1.out hB.out)
   have g17 := KO.out.2 17 _ hs17.out
   have g18 := KO.out.2 18 _ hs18.out
   have z3 := KO.out.1
   clear h17 h18 z1
   by_cases hlt : k < s.inn.length
   ·obtain ⟨b, o, rfl, hbb, e1, e2, hcap⟩ := AI.out wo Bw.out k hlt
    have hs := hbs.out k hlt
    have hq0 := hin0.out k hlt
    rw [hbk.out] at hs
    generalize s.inn[k] = q at *
    obtain ⟨q1, q2⟩ := q
    simp only at e1 e2 hs hq0
    have hBa := Lib.hid (fun o => hB.out.trans ((Below.refl wo.heap.size wo).alloc (Nat.le_refl _) o |>.mono hB.out.size))
    have FHq := fun o => FH.out q2 (wo.alloc o) (Below.next_alloc Bw.out o)
    by_cases hx1 : after < q2
    ·by_cases hx2 : q2 < b0
     ·by_cases hx3 : q2 ∈ secs s.out
      ·rw [if_neg (fun h => h.2.2 hx3)] at hs
       rw [decide_eq_true hx3] at FHq
       replace hs := Lib.hid hs
       replace FHq := Lib.hid FHq
       clear hx3
       go_wp2_with (first
        | (go_at_call 53; (with_reducible refine (FHq.out _).mono ?_); rintro e w3 ⟨rfl, hB3⟩; have m1 : w3.cell? ⟨wo.heap.size, 1, none⟩ = some (.int .i64 q2) := (hB3.cell (p := ⟨wo.heap.size, 1, none⟩) (by simp)).trans (World.cell?_alloc_new wo _ _ 1); have m9 : wo.heap.size < w3.heap.size := Nat.lt_of_lt_of_le (by simp) hB3.size; replace hB3 := Lib.hid (Lib.hid ((hBa.out _).trans (hB3.mono (Nat.le_trans hB.out.size (by simp)))))))
       go_roundw
       case rel => exact ⟨k + 1, b0, by omega, by go_num, rfl, hb00, hs, hB3.out⟩
       case measure => simp [intOf]; omega
      ·rw [if_pos ⟨hx1, hx2, hx3⟩] at hs
       rw [decide_eq_false hx3] at FHq
       replace hs := Lib.hid hs
       replace FHq := Lib.hid FHq
       clear hx3
       go_wp2_with (first
        | (go_at_call 53; (with_reducible refine (FHq.out _).mono ?_); rintro e w3 ⟨rfl, hB3⟩; have m1 : w3.cell? ⟨wo.heap.size, 1, none⟩ = some (.int .i64 q2) := (hB3.cell (p := ⟨wo.heap.size, 1, none⟩) (by simp)).trans (World.cell?_alloc_new wo _ _ 1); have m9 : wo.heap.size < w3.heap.size := Nat.lt_of_lt_of_le (by simp) hB3.size; replace hB3 := Lib.hid (Lib.hid ((hBa.out _).trans (hB3.mono (Nat.le_trans hB.out.size (by simp)))))))
       go_roundw
       case rel => exact ⟨k + 1, q2, by omega, by go_num, rfl, by omega, hs, hB3.out⟩
       case measure => simp [intOf]; omega
     ·rw [if_neg (fun h => hx2 h.2.1)] at hs
      replace hs := Lib.hid hs
      clear FHq
      go_wp2
      go_roundw
      case rel => exact ⟨k + 1, b0, by omega, by go_num, rfl, hb00, hs, Lib.hid (hBa.out _)⟩
      case measure => simp [intOf]; omega
    ·rw [if_neg (fun h => hx1 h.1)] at hs
     replace hs := Lib.hid hs
     clear FHq
     go_wp2
     go_roundw
     case rel => exact ⟨k + 1, b0, by omega, by go_num, rfl, hb00, hs, Lib.hid (hBa.out _)⟩
     case measure => simp [intOf]; omega
   ·have hbb0 : b0 = by0 := by rw [← hbk.out, ← hbe.out, show k = s.inn.length by omega]
    subst hbb0
    clear hbs hbe hb0 hbk hin0 AI FC
    by_cases hm0 : m = []
    ·subst hm0
     have hR0 := hn0.out (by rw [hfe.out]; rfl)
     by_cases hb9 : b0 ≤ 315537897599
     ·rw [if_pos hb9] at hR0
      have hR := Lib.hid hR0
      clear hR0
      go_wp2_with (first
       | (refine wpList_load_arr rfl 48 _ rfl w.heap.size 0 rfl SV dS (Blk.range (BK.out _ (by first | exact Below.refl _ _ | assumption | exact hB1.out | exact hB1c.out))) uS.out rS.out sS.out ?_)
       | (go_at_call 48; (with_reducible refine (FS.out _ Bw.out).mono ?_); rintro e w2 ⟨rfl, hB2⟩; have K2 := Lib.hid (KO.out.later hB2 KO.out.1); have B2 := Lib.hid (Below.next Bw.out hB2); have z12 := hB2.size; clear hB2 g17 g18 z3; have z2 := K2.out.1)
       | (refine wpList_store_new rfl 93 _ _ rfl WQ w2.heap.size rfl rfl rfl sW.out (by rw [hWs.out]; rfl) hW1.out ?_)
       | (go_at_call 49; (with_reducible refine (FR.out w2 B2.out).mono ?_); rintro e w4 ⟨v4, rfl, hB4, c25, hO4, z4⟩; obtain ⟨a4, g4, hv4⟩ := hO4.slice; subst hv4; replace hO4 := Lib.hid hO4; have B4 := Lib.hid (B2.out.trans (hB4.mono B2.out.size)); have K4 := Lib.hid (K2.out.later hB4 z2); clear hB4; have h18 := K4.out.2 18 _ hs18.out; have z5 := K4.out.1))
      go_region
      go_wp2
      go_ret3
      exact ⟨by rw [hR.out]; rfl, B4.out.drew⟩
     ·rw [if_neg hb9] at hR0
      have hR := Lib.hid hR0
      clear hR0
      go_wp2_with (first
       | (refine wpList_load_arr rfl 48 _ rfl w.heap.size 0 rfl SV dS (Blk.range (BK.out _ (by first | exact Below.refl _ _ | assumption | exact hB1.out | exact hB1c.out))) uS.out rS.out sS.out ?_)
       | (go_at_call 48; (with_reducible refine (FS.out _ Bw.out).mono ?_); rintro e w2 ⟨rfl, hB2⟩; have K2 := Lib.hid (KO.out.later hB2 KO.out.1); have B2 := Lib.hid (Below.next Bw.out hB2); have z12 := hB2.size; clear hB2 g17 g18 z3; have z2 := K2.out.1)
       | (refine wpList_store_new rfl 93 _ _ rfl WQ w2.heap.size rfl rfl rfl sW.out (by rw [hWs.out]; rfl) hW1.out ?_)
       | (go_at_call 49; (with_reducible refine (FR.out w2 B2.out).mono ?_); rintro e w4 ⟨v4, rfl, hB4, c25, hO4, z4⟩; obtain ⟨a4, g4, hv4⟩ := hO4.slice; subst hv4; replace hO4 := Lib.hid hO4; have B4 := Lib.hid (B2.out.trans (hB4.mono B2.out.size)); have K4 := Lib.hid (K2.out.later hB4 z2); clear hB4; have h18 := K4.out.2 18 _ hs18.out; have z5 := K4.out.1))
      go_region
      go_wp2
      go_ret3
      exact ⟨by rw [hR.out]; rfl, B4.out.drew⟩
    ·obtain ⟨N, hN⟩ : ∃ N, m.length = N + 1 := ⟨m.length - 1, by have := List.length_pos_iff.2 hm0; omega⟩
     have hlN : N < m.length := by omega
     have hla : m.getLast? = some m[N] := by rw [List.getLast?_eq_getElem?, show m.length - 1 = N by omega, List.getElem?_eq_getElem hlN]
     have hfe2 := hfe.out
     rw [hla] at hfe2
     have hmx := hmm.out _ (List.getElem_mem hlN)
     have hOm := Lib.hid (fun W B g q (h : OwnI W B (.slice g m.length q) m) W2 (h2 : Below W.heap.size W W2) => own_at h h2 hlN)
     generalize m[N] = t at *
     have hsub : (m.length : Int) - 1 = (N : Int) := by omega
     have hpos : (0 : Int) < (m.length : Int) := by omega
     clear hla hfe hmm hm0
     by_cases hin : t ∈ secs s.out
     ·have hR0 := hn0.out (hfe2.trans (if_pos hin))
      have FA := fun W (h : Below w.heap.size w W) => FH.out t W h
      rw [decide_eq_true hin] at FA
      replace FA := Lib.hid FA
      clear hfe2 hin FH hn0 hn1
      go_wp2_with (first
       | (refine wpList_load_arr rfl 48 _ rfl w.heap.size 0 rfl SV dS (Blk.range (BK.out _ (by first | exact Below.refl _ _ | assumption | exact hB1.out | exact hB1c.out))) uS.out rS.out sS.out ?_)
       | (go_at_call 48; (with_reducible refine (FS.out _ Bw.out).mono ?_); rintro e w2 ⟨rfl, hB2⟩; have K2 := Lib.hid (KO.out.later hB2 KO.out.1); have B2 := Lib.hid (Below.next Bw.out hB2); have z12 := hB2.size; clear hB2 g17 g18 z3; have z2 := K2.out.1)
       | (refine wpList_store_new rfl 93 _ _ rfl WQ w2.heap.size rfl rfl rfl sW.out (by rw [hWs.out]; rfl) hW1.out ?_)
       | (go_at_call 49; (with_reducible refine (FR.out w2 B2.out).mono ?_); rintro e w4 ⟨v4, rfl, hB4, c25, hO4, z4⟩; obtain ⟨a4, g4, hv4⟩ := hO4.slice; subst hv4; replace hO4 := Lib.hid hO4; have B4 := Lib.hid (B2.out.trans (hB4.mono B2.out.size)); have K4 := Lib.hid (K2.out.later hB4 z2); clear hB4; have h18 := K4.out.2 18 _ hs18.out; have z5 := K4.out.1))
      obtain ⟨g, rfl, hg1, hg2, hg3⟩ := hOm.out w4 _ _ _ hO4.out w4 (Below.refl _ _)
      have zg : g < w4.heap.size := hg1
      rw [hN] at hg3 c25
      try rw [hN]
      have hi1 : (N : Int) < (N : Int) + 1 := by omega
      have hi4 : (0 : Int) < (N : Int) + 1 := by omega
      have hsb : (N : Int) + 1 - 1 = (N : Int) := by omega
      have hw1 : IntKind.i64.wrap ((N : Int) + 1 - 1) = (N : Int) := (IntWalk.i64_in _ (by omega)).trans hsb
      have hw2 : IntKind.i64.wrap (N : Int) = (N : Int) := IntWalk.i64_in _ (by omega)
      have hi5 : (0 : Int) ≤ (N : Int) := by omega
      go_cut [86] (fun cc wx => cc = .bool false ∧ Hid (Below w4.heap.size w4 wx))
      case first =>
       go_region_with (go_at_call 53; (with_reducible refine (FA.out _ B4.out.drew).mono ?_); rintro e w5 ⟨rfl, hB5⟩)
       all_goals
        go_wp2
        go_meet
        exact ⟨rfl, Lib.hid (nb1 hB5)⟩
      case rest =>
      obtain ⟨rfl, hBc⟩ := hcut
      have B5 := Lib.hid (B4.out.trans (hBc.out.mono B4.out.size))
      by_cases hb9 : b0 ≤ 315537897599
      ·rw [if_pos hb9] at hR0
       have hR := Lib.hid hR0
       clear hR0
       go_wp2
       go_ret3
       exact ⟨by rw [hR.out]; rfl, B5.out⟩
      ·rw [if_neg hb9] at hR0
       have hR := Lib.hid hR0
       clear hR0
       go_wp2
       go_ret3
       exact ⟨by rw [hR.out]; rfl, B5.out⟩
     ·have hR0 := hn1.out t (hfe2.trans (if_neg hin))
      have FA := fun W (h : Below w.heap.size w W) => FH.out t W h
      rw [decide_eq_false hin] at FA
      replace FA := Lib.hid FA
      clear hfe2 hin FH hn0 hn1
      go_wp2_with (first
       | (refine wpList_load_arr rfl 48 _ rfl w.heap.size 0 rfl SV dS (Blk.range (BK.out _ (by first | exact Below.refl _ _ | assumption | exact hB1.out | exact hB1c.out))) uS.out rS.out sS.out ?_)
       | (go_at_call 48; (with_reducible refine (FS.out _ Bw.out).mono ?_); rintro e w2 ⟨rfl, hB2⟩; have K2 := Lib.hid (KO.out.later hB2 KO.out.1); have B2 := Lib.hid (Below.next Bw.out hB2); have z12 := hB2.size; clear hB2 g17 g18 z3; have z2 := K2.out.1)
       | (refine wpList_store_new rfl 93 _ _ rfl WQ w2.heap.size rfl rfl rfl sW.out (by rw [hWs.out]; rfl) hW1.out ?_)
       | (go_at_call 49; (with_reducible refine (FR.out w2 B2.out).mono ?_); rintro e w4 ⟨v4, rfl, hB4, c25, hO4, z4⟩; obtain ⟨a4, g4, hv4⟩ := hO4.slice; subst hv4; replace hO4 := Lib.hid hO4; have B4 := Lib.hid (B2.out.trans (hB4.mono B2.out.size)); have K4 := Lib.hid (K2.out.later hB4 z2); clear hB4; have h18 := K4.out.2 18 _ hs18.out; have z5 := K4.out.1))
      obtain ⟨g, rfl, hg1, hg2, hg3⟩ := hOm.out w4 _ _ _ hO4.out w4 (Below.refl _ _)
      have zg : g < w4.heap.size := hg1
      rw [hN] at hg3 c25
      try rw [hN]
      have hi1 : (N : Int) < (N : Int) + 1 := by omega
      have hi4 : (0 : Int) < (N : Int) + 1 := by omega
      have hsb : (N : Int) + 1 - 1 = (N : Int) := by omega
      have hw1 : IntKind.i64.wrap ((N : Int) + 1 - 1) = (N : Int) := (IntWalk.i64_in _ (by omega)).trans hsb
      have hw2 : IntKind.i64.wrap (N : Int) = (N : Int) := IntWalk.i64_in _ (by omega)
      have hi5 : (0 : Int) ≤ (N : Int) := by omega
      go_cut [86] (fun cc wx => cc = .bool true ∧ Hid (Below w4.heap.size w4 wx))
      case first =>
       go_region_with (go_at_call 53; (with_reducible refine (FA.out _ B4.out.drew).mono ?_); rintro e w5 ⟨rfl, hB5⟩)
       all_goals
        go_wp2
        go_meet
        exact ⟨rfl, Lib.hid (nb1 hB5)⟩
      case rest =>
      obtain ⟨rfl, hBc⟩ := hcut
      have B5 := Lib.hid (B4.out.trans (hBc.out.mono B4.out.size))
      have d25 := (hBc.out.cell (p := ⟨w2.heap.size, 25, none⟩) z4).trans c25
      have e2 := (hBc.out.cell (p := ⟨g, N, none⟩) zg).trans hg2
      have zz1 : w2.heap.size < wc.heap.size := Nat.lt_of_lt_of_le z4 hBc.out.size
      have zz2 : g < wc.heap.size := Nat.lt_of_lt_of_le zg hBc.out.size
      clear c25 hg2
      have hR := Lib.hid hR0
      clear hR0
      go_wp2
      go_ret3
      exact ⟨by rw [hR.out]; rfl, B5.out⟩
theorem pnext_any (w : World) (s : St) (a : Nat → Option Addr) (c : Nat → Nat) (after bud : Int) (hT : Tab w) (hL : LS w s (svQ s.rule a c) (.slice (a 13) s.inn.length (c 13)) (.slice (a 14) s.out.length (c 14))) (hW : WS s) :
  Calls Tryz.prog 28 #[.agg (setQ s a c), .int .i64 after, .int .i64 bud] w (fun e w' => e = .returned (.tuple #[.int .i64 (nextF s after bud).1, .bool (nextF s after bud).2.1, .int .i64 (nextF s after bud).2.2]) ∧ Below w.heap.size w w') := by
 have FC : ∀ W, Below w.heap.size w W → Calls Tryz.prog 26 #[.agg (setQ s a c)] W fun e w' => e = .returned (.int .i64 (chkS s)) ∧ Below W.heap.size W w' := fun W hB => checkS_any W s (svQ s.rule a c) (.slice (a 13) s.inn.length (c 13)) (.slice (a 14) s.out.length (c 14)) (hL.later hB) hW
 by_cases hc : chkS s ≠ 0
 ·exact pnext_err w s (setQ s a c) (a 13) (a 14) (c 13) (c 14) after bud rfl rfl rfl FC hc
 have hc' := Decidable.byContradiction hc
 by_cases hb : badN after bud
 ·exact pnext_bad w s (setQ s a c) (a 13) (a 14) (c 13) (c 14) after bud rfl rfl rfl FC hc' hb
 have hb' := hb
 unfold badN at hb'
 have FS : ∀ W, Below w.heap.size w W → Calls Tryz.prog 48 #[.agg (setQ s a c), .int .i64 (after + 1), .int .i64 (best s after), .int .i64 bud, .bool true] W fun e w' => e = .returned (.agg (walkQ s a c (after + 1) (best s after) bud true 0 (.slice none 0 0))) ∧ Below W.heap.size W w' := fun W _ => start_any W s a c (after + 1) (best s after) bud true
 have hins := (chkS_parts hc').2.2.2.2.1
 cases hw : walk (pS s (after + 1) (best s after) bud true) with
 | none =>
  refine pnext_spent w s (setQ s a c) (a 13) (a 14) (c 13) (c 14) after bud rfl rfl rfl FC hL.2.1 hL.2.2 hW.2.2.2.2.1 hW.2.2.2.2.2 hins _ (walkQ_size ..) (walkQ_one ..) FS (fun W hB => ?_) hc' hb hw
  refine (run_new (x := after + 1) (y := best s after) (bud := bud) (once := true) hT hL hW hc' (by omega) (by omega) hB).mono fun e w' h => ?_
  unfold GivesRun at h
  rw [hw] at h
  exact ⟨h.2, below_box h.1⟩
 | some q =>
  obtain ⟨u, m⟩ := q
  have hl := walk_len (by omega) hw
  have hbst : best s after ≤ 315537897600 := best_le (secs s.out) after 315537897600 (secs s.inn)
  refine pnext_ok w s (setQ s a c) (a 13) (a 14) (c 13) (c 14) after bud rfl rfl rfl FC hL.2.1 hL.2.2 hW.2.2.2.2.1 hW.2.2.2.2.2 hins _ (walkQ_size ..) (walkQ_one ..) FS u m (by omega) (fun t ht => by have := walk_mem hW.1.2.1.1 hc' (by omega) hw t ht; omega) (fun W hB => ?_) hc' hb hw (free_end hW.1.2.1.1 hc' (by omega) hw)
  refine (run_new (x := after + 1) (y := best s after) (bud := bud) (once := true) hT hL hW hc' (by omega) (by omega) hB).mono fun e w' h => ?_
  unfold GivesRun at h
  rw [hw] at h
  obtain ⟨h1, h2, v, h3, h4⟩ := h
  exact ⟨v, h2, below_box h1, h3.1.2 25 _ rfl, h4, h3.1.1⟩
end Go.Proofs.YtkbohijlhhpfbaaGreatDoor.Rs

/- Rows of edges: append, copy, clear; the walk through Add. -/
import Derived.Test.YthelkkbjflohgaaGg
import Derived.Laws.CopyOwn
import Derived.Laws.MakeOwn
import Derived.WalkSpells
namespace Go.Proofs.Ythelkkbjflohgaa.Ds
open Go.RowKit Ut Gr Go.Maps
theorem ec_one : ∀ (l : List (ByteArray × ByteArray)), ∀ u ∈ ec l, u.oneCell' = true
  | [], _, h => by simp [ec] at h
  | d :: l, u, h => by
    simp only [ec, List.mem_cons] at h
    rcases h with rfl | rfl | h
    · simp [Value.oneCell']
    · simp [Value.oneCell']
    · exact ec_one l u h
theorem ec_cells {w : World} {b o : Nat} {l : List (ByteArray × ByteArray)} (hc : ∀ i (h : i < l.length), w.cell? ⟨b, o + i * 2, none⟩ = some (.string l[i].1) ∧ w.cell? ⟨b, o + i * 2 + 1, none⟩ = some (.string l[i].2)) (j : Nat) (u : Value) (h : (ec l)[j]? = some u) :
    w.cell? ((⟨b, o, none⟩ : Addr).add j) = some u := by
  have hj : j < l.length * 2 := by
    have := (List.getElem?_eq_some_iff.1 h).1
    rwa [ec_length] at this
  have hq : j / 2 < l.length := by omega
  have ha := ec_at l (j / 2) hq
  have hcc := hc (j / 2) hq
  rw [add_eq]
  rcases Nat.mod_two_eq_zero_or_one j with h0 | h0
  · rw [show j / 2 * 2 = j by omega] at ha hcc
    rw [ha.1] at h
    rw [← h]; exact hcc.1
  · rw [show j / 2 * 2 + 1 = j by omega] at ha
    rw [show o + j / 2 * 2 + 1 = o + j by omega] at hcc
    rw [ha.2] at h
    rw [← h]; exact hcc.2
section
variable {ops : Array Oper} {rest : List Oper} {o : Oper} {a : Act} {Q : Exit → Act → World → Prop} {W : World} {E S : TypeId}
theorem app_edges (hE : (Try.prog.info? E).map (fun i => (i.zero, i.size, i.bytes)) = some (some (.agg #[.string ByteArray.empty, .string ByteArray.empty]), 2, 32)) (hS : Try.prog.underlying S = some (.slice E)) (hgd : o.guard = none) (s x : Operand)
    (ho : o.op = .call { callee := .builtin .append, args := #[s, x], argTypes := #[S, S] }) (B : Nat) (v : Value) (l : List (ByteArray × ByteArray)) (hs : a.eval s = v) (hown : OwnE E W B v l)
    (u : Value) (m : List (ByteArray × ByteArray)) (hx : a.eval x = u) (hm : Edgs W u m) (hn : l.length + m.length ≤ 10000000) (hB : B ≤ W.heap.size)
    (h : ∀ v' w', OwnE E w' B v' (l ++ m) → Below B W w' → wpList Try.prog ops Q rest (a.put o.dst v') w') : wpList Try.prog ops Q (o :: rest) a W := by
  obtain ⟨i0, hi, hz0, hz1, hz2⟩ := info_parts hE
  rcases hm with ⟨rfl, a', cap, rfl, ha⟩ | ⟨h0, b, of, cap, rfl, hlt, hcap, hcell⟩
  · rw [List.append_nil] at h
    cases a' with
    | none =>
      obtain rfl := ha rfl
      exact wpList_append_own_none hgd s x _ ho B E i0 2 hS hi v l.length (ec l) hs hown hx (h v W hown (Below.refl _ _))
    | some ad =>
      refine wpList_append_own W hgd s x _ ho B E i0 _ 2 32 hS hi hz0 hz1 hz2 rfl (by decide) v l.length (ec l) hs hown ad 0 cap [] hx rfl (by intro j u hj; simp at hj) (by simp) (by unfold maxLen; omega) (by omega) hB fun v' w' h1 h2 _ => ?_
      rw [List.append_nil] at h1
      exact h v' w' h1 ((Below.refl B W).grown h2 hB fun k hk => (hown.lt k hk).1)
  · refine wpList_append_own W hgd s x _ ho B E i0 _ 2 32 hS hi hz0 hz1 hz2 rfl (by decide) v l.length (ec l) hs hown ⟨b, of, none⟩ m.length cap (ec m) hx (ec_length m) (ec_cells hcell) (ec_one m) (by unfold maxLen; omega) (by omega) hB fun v' w' h1 h2 _ => ?_
    refine h v' w' ?_ ((Below.refl B W).grown h2 hB fun k hk => (hown.lt k hk).1)
    unfold OwnE
    rw [ec_append, List.length_append]
    exact h1
end
theorem run_copy2 (w : World) (dT sT ty elem : TypeId) (g dLen dCap : Nat) (ad : Addr) (sCap : Nat) (cur : Array Value) (t : TypeId) (cs : List Value)
    (hu : Try.prog.underlying dT = some (.slice elem)) (hs : (Try.prog.info? elem).map (·.size) = some 2) (hg : w.heap[g]? = some (.cells cur t (0, 0))) (hn : cs.length = dLen * 2)
    (hsrc : ∀ j v, cs[j]? = some v → w.cell? (ad.add j) = some v) (hfit : cs.length ≤ cur.size) (h1 : ∀ v ∈ cs, v.oneCell' = true) :
    (Builtin.copy_ #[dT, sT] ty #[.slice (some ⟨g, 0, none⟩) dLen dCap, .slice (some ad) dLen sCap]).run Try.prog w = .ok (goInt dLen) (w.setRow g (cs ++ cur.toList.drop cs.length).toArray) := by
  have hl := run_loadCells_list (P := Try.prog) w ad cs hsrc
  have hst := run_storeCells_at Try.prog g 0 t cs 0 cur w hg (by simpa using hfit) h1
  cases hq : Try.prog.info? elem with
  | none => simp [hq] at hs
  | some i =>
    have hi : i.size = 2 := by simpa [hq] using hs
    simp [Builtin.copy_, run_underlying hu, Builtin.lenOf, Builtin.firstCells, sizeOf, typeInfo, hq, hi, ← hn, hl, hst]
theorem run_copy20 (w : World) (dT sT ty elem : TypeId) (d a : Option Addr) (dCap sCap : Nat) (hu : Try.prog.underlying dT = some (.slice elem)) (hs : (Try.prog.info? elem).map (·.size) = some 2) :
    (Builtin.copy_ #[dT, sT] ty #[.slice d 0 dCap, .slice a 0 sCap]).run Try.prog w = .ok (goInt 0) w := by
  cases hq : Try.prog.info? elem with
  | none => simp [hq] at hs
  | some i =>
    have hl : ∀ (x : Addr), (loadCells x 0).run Try.prog w = .ok #[] w := fun x => by simpa using run_loadCells_list (P := Try.prog) w x [] (by simp)
    cases d <;> cases a <;> simp [Builtin.copy_, run_underlying hu, Builtin.lenOf, Builtin.firstCells, sizeOf, typeInfo, hq, storeCells, hl]
/-- a fresh row of n edges, with room for one more -/
def Fresh (w w' : World) (n : Nat) : Prop := ∃ cur, w' = w.alloc (.cells cur 44) ∧ cur.size = (n + 1) * 2
theorem Fresh.below {w w' : World} {n : Nat} (h : Fresh w w' n) : Below w.heap.size w w' := by
  obtain ⟨cur, rfl, _⟩ := h
  exact (Below.refl _ _).alloc (Nat.le_refl _) _
section
variable {ops : Array Oper} {rest : List Oper} {o : Oper} {a : Act} {Q : Exit → Act → World → Prop} {w : World}
theorem make_edges (hg : o.guard = none) (l c : Operand) (hop : o.op = Op.makeSlice 28 l c) (n : Nat) (hl : a.eval l = .int .i64 n) (hc : a.eval c = .int .i64 (n + 1)) (hn : n ≤ 1000000)
    (hK : ∀ w', Fresh w w' n → wpList Try.prog ops Q rest (a.put o.dst (.slice (some ⟨w.heap.size, 0, none⟩) n (n + 1))) w') : wpList Try.prog ops Q (o :: rest) a w := by
  obtain ⟨i0, hi, hz0, hz1, hz2⟩ := info_parts infoE
  refine wpList_plain hg fun K hK' => ?_
  have hrun := run_makeSlice (P := Try.prog) w 28 44 i0 _ Try.underlying28 hi hz0 .i64 .i64 n (n + 1) (by omega) (by omega) (by rw [hz1]; omega) (by rw [hz2]; omega) (by omega)
  unfold Oper.wp
  simp only [Int.toNat_natCast, show ((n : Int) + 1).toNat = n + 1 by omega] at hrun
  simp [execOp, hop, hl, hc, hrun, Result.andThen]
  exact hK' _ _ (hK _ ⟨_, rfl, by simp [madeCells, hz1]⟩)
theorem copy_edges (hg : o.guard = none) (d s : Operand) (ho : o.op = .call { callee := .builtin .copy, args := #[d, s], argTypes := #[28, 28] }) {w0 : World} (l : List (ByteArray × ByteArray)) (v : Value)
    (hd : a.eval d = .slice (some ⟨w0.heap.size, 0, none⟩) l.length (l.length + 1)) (hs : a.eval s = v) (hF : Fresh w0 w l.length) (hv : Edgs w v l) (hn : l.length ≤ 1000000)
    (h : ∀ w', OwnE 44 w' w0.heap.size (.slice (some ⟨w0.heap.size, 0, none⟩) l.length (l.length + 1)) l → Below w0.heap.size w0 w' → wpList Try.prog ops Q rest (a.put o.dst (goInt l.length)) w') : wpList Try.prog ops Q (o :: rest) a w := by
  refine wpList_plain hg fun K hK => ?_
  obtain ⟨cur, rfl, hcs⟩ := hF
  have hB : Below w0.heap.size w0 (w0.alloc (.cells cur 44)) := (Below.refl _ _).alloc (Nat.le_refl _) _
  have hgt : (w0.alloc (.cells cur 44)).heap[w0.heap.size]? = some (.cells cur 44 (0, 0)) := by
    show (w0.heap.push _)[w0.heap.size]? = _
    exact Array.getElem?_push_size
  rcases hv with ⟨rfl, a', cap, rfl, ha⟩ | ⟨h0, b, of, cap, rfl, hlt, hcap, hcell⟩
  · have hrun := run_copy20 (w0.alloc (.cells cur 44)) 28 28 o.type 44 (some ⟨w0.heap.size, 0, none⟩) a' 1 cap Try.underlying28 (by kernel_rfl)
    unfold Oper.wp
    simp only [List.length_nil, Nat.zero_add] at hd h
    simp [execOp, ho, resolve, invoke, builtin, hd, hs, hrun, Result.andThen]
    refine hK _ _ (h _ ⟨rfl, .inr ⟨w0.heap.size, 1, cur, rfl, Nat.le_refl _, hgt, Nat.zero_le _, by unfold maxLen; omega, by simpa using hcs, by simp [ec]⟩⟩ hB)
  · have hrun := run_copy2 (w0.alloc (.cells cur 44)) 28 28 o.type 44 w0.heap.size l.length (l.length + 1) ⟨b, of, none⟩ cap cur 44 (ec l) Try.underlying28 (by kernel_rfl) hgt (ec_length l) (ec_cells hcell) (by rw [ec_length, hcs]; omega) (ec_one l)
    unfold Oper.wp
    simp [execOp, ho, resolve, invoke, builtin, hd, hs, hrun, Result.andThen]
    refine hK _ _ (h _ ⟨ec_length l, .inr ⟨w0.heap.size, l.length + 1, _, rfl, Nat.le_refl _, setRow_heap _ _ _ _ _ _ hgt, by omega, by unfold maxLen; omega, ?_, ?_⟩⟩ (below_setRow hB (Nat.le_refl _) _))
    · rw [List.size_toArray, List.length_append, List.length_drop, ec_length, Array.length_toList (xs := cur), hcs]; omega
    · rw [List.take_left' (ec_length l)]
end
/-- what Add tells -/
noncomputable def addL (l : List (ByteArray × ByteArray)) (e : ByteArray × ByteArray) : List (ByteArray × ByteArray) × Int := if isIn e l = true then (l, 12) else if loops l e = true then (l, 14) else (l ++ [e], 0)
def GivesA (w : World) (r : List (ByteArray × ByteArray) × Int) (e : Ending) (w' : World) : Prop := ∃ u, e = .returned (.tuple #[u, .int .i64 r.2]) ∧ Edgs w' u r.1 ∧ Below w.heap.size w w'
set_option maxHeartbeats 4000000 in
set_option maxRecDepth 100000 in
theorem add_any {w : World} {v : Value} {l : List (ByteArray × ByteArray)} (x y : ByteArray) (hl : Edgs w v l) (hn : l.length ≤ 1000) (hz : Short l) (hx : x.size ≤ maxLen) : Calls Try.prog 21 #[v, .agg #[.string x, .string y]] w (GivesA w (addL l (x, y))) := by
  have FC := Lib.hid (fun W (hB : Below w.heap.size w W) => containsE_any (w := W) x y (hl.below hB) (by omega))
  have FR := Lib.hid (fun W (hB : Below w.heap.size w W) => reach_any (w := W) y x (hl.below hB) hn hz hx)
  have HL := Lib.hid hl
  obtain ⟨a, c, rfl⟩ := hl.slice
  clear hl hz
  unfold addL loops
  generalize isIn (x, y) l = i at *
  cases i
  rotate_left
  · rw [if_pos rfl]
    go_enter Try.func21, Try.ntmps21
    go_wp2_with (first
      | (go_at_call 40; (with_reducible refine (FC.out _ (by (repeat' (first | assumption | exact Below.refl _ _ | apply Below.next_alloc | apply Below.drew | (apply Below.next; rotate_left; assumption))))).mono ?_); rintro e w1 ⟨rfl, hB1⟩))
    go_ret2
    exact ⟨_, rfl, HL.out.below (next_allocs hB1), next_allocs hB1⟩
  rw [if_neg (by decide)]
  by_cases he : x = y
  · have hr := Lib.hid he
    simp only [decide_eq_true he, Bool.true_or, if_true]
    subst he
    go_enter Try.func21, Try.ntmps21
    go_wp2_with (first
      | (go_at_call 40; (with_reducible refine (FC.out _ (by (repeat' (first | assumption | exact Below.refl _ _ | apply Below.next_alloc | apply Below.drew | (apply Below.next; rotate_left; assumption))))).mono ?_); rintro e w1 ⟨rfl, hB1⟩; obtain ⟨hlt, e0, e1⟩ := boxed2 hB1))
    go_ret2
    exact ⟨_, rfl, HL.out.below (next_allocs hB1), next_allocs hB1⟩
  rw [decide_eq_false he, Bool.false_or]
  have hq := eqS_no he
  clear he
  generalize way l y x = r at *
  cases r
  rotate_left
  · rw [if_pos rfl]
    go_enter Try.func21, Try.ntmps21
    go_wp2_with (first
      | (go_at_call 40; (with_reducible refine (FC.out _ (by (repeat' (first | assumption | exact Below.refl _ _ | apply Below.next_alloc | apply Below.drew | (apply Below.next; rotate_left; assumption))))).mono ?_); rintro e w1 ⟨rfl, hB1⟩; obtain ⟨hlt, e0, e1⟩ := boxed2 hB1; have b1 := Lib.hid (next_allocs hB1))
      | (go_at_call 13; (with_reducible refine (FR.out _ b1.out).mono ?_); rintro e w2 ⟨rfl, hB2⟩))
    go_ret2
    exact ⟨_, rfl, HL.out.below (Below.next b1.out hB2), Below.next b1.out hB2⟩
  rw [if_neg (by decide)]
  go_enter Try.func21, Try.ntmps21
  go_wp2_with (first
    | (go_at_call 40; (with_reducible refine (FC.out _ (by (repeat' (first | assumption | exact Below.refl _ _ | apply Below.next_alloc | apply Below.drew | (apply Below.next; rotate_left; assumption))))).mono ?_); rintro e w1 ⟨rfl, hB1⟩; obtain ⟨hlt, e0, e1⟩ := boxed2 hB1; have b1 := Lib.hid (next_allocs hB1))
    | (go_at_call 13; (with_reducible refine (FR.out _ b1.out).mono ?_); rintro e w2 ⟨rfl, hB2⟩; have b2 := Lib.hid (Below.next b1.out hB2); have q0 := (hB2.cell (p := ⟨w.heap.size, 0, none⟩) hlt).trans e0; have q1 := (hB2.cell (p := ⟨w.heap.size, 1, none⟩) hlt).trans e1; have hlt2 := Nat.lt_of_lt_of_le hlt hB2.size)
    | (refine make_edges rfl _ _ rfl l.length rfl rfl (by omega) ?_; intro w3 hF3)
    | (refine copy_edges rfl _ _ rfl l _ rfl rfl hF3 (HL.out.below (Below.next b2.out hF3.below)) (by omega) ?_; intro w4 hown4 hB4; have r0 := (hB4.cell (p := ⟨w.heap.size, 0, none⟩) hlt2).trans q0; have r1 := (hB4.cell (p := ⟨w.heap.size, 1, none⟩) hlt2).trans q1)
    | (at_builtin; refine push_edge infoE Try.underlying28 rfl _ _ rfl w2.heap.size _ l rfl hown4 rfl (by omega) hB4.size ?_; intro v5 w5 hown5 hB5))
  go_ret2
  exact ⟨_, rfl, hown5.edgs, Below.next b2.out (hB4.trans hB5)⟩
end Go.Proofs.Ythelkkbjflohgaa.Ds

import Derived.Test.YtkbohijlhhpfbaaGreatDoorVTg
import Derived.Test.YtkbohijlhhpfbaaGreatDoorVTf
/- The seconds of a stretch: the walks through timeset's within and Of. -/
namespace Go.Proofs.YtkbohijlhhpfbaaGreatDoor.Tm
open Go.RowKit Go.Shelf Ru Ut Cw Ra
def hourL (r : R) (start : Int) : List Int := chL (chAll r.hour (toldH r) 24) (chList r.hour (toldH r) (start % 86400 / 3600))
def minL (r : R) (start : Int) : List Int := chL (chAll r.min (toldM r) 60) (chList r.min (toldM r) (start % 86400 / 60 % 60))
def secL (r : R) (start : Int) : List Int := chL (chAll r.sec (toldS r) 60) (chList r.sec (toldS r) (start % 60))
theorem ints_slice {w : World} {v : Value} {l : List Int} (h : Ints w v l) : ∃ a c, v = .slice a l.length c := by
 rcases h with ⟨rfl, a, c, rfl, _⟩ | ⟨_, b, o, c, rfl, _⟩
 ·exact ⟨a, c, rfl⟩
 ·exact ⟨_, c, rfl⟩
theorem gives_nil (w : World) (W : World) (h : Below w.heap.size w W) : Gives w [] (.returned (.slice none 0 0)) W := ⟨_, rfl, OwnI.nil _ _, h⟩
set_option maxHeartbeats 4000000 in
set_option maxRecDepth 100000 in
theorem of_no (w : World) (r : R) (sv : Nat → Value) (start a b : Int) (hL : Lists w r sv) (hW : Wide r) (hm : mayT r start = false) :
  Calls Tryz.prog 70 #[ruleV r sv, .int .i64 start, .int .i64 a, .int .i64 b] w (Gives w []) := by
 have FC : ∀ W, Below w.heap.size w W → Calls Tryz.prog 112 #[ruleV r sv, .int .i64 start] W fun e w' => e = .returned (.tuple #[zeroT, .bool false]) ∧ Below W.heap.size W w' := fun W hB => set_no W r sv start (hL.later hB) hW hm
 unfold ruleV ruleC at *
 replace FC := Lib.hid FC
 unfold zeroT at FC
 go_enter Tryz.func70, Tryz.ntmps70
 go_wp2_with (first
  | (go_at_call 112; (with_reducible refine (FC.out _ (by (repeat' (first|assumption|exact Below.refl _ _|apply Below.next_alloc|apply Below.drew|(apply Below.next;rotate_left;assumption))))).mono ?_); rintro e w1 ⟨rfl, hB1⟩))
 all_goals
  go_ret
  exact gives_nil _ _ (by (repeat' (first|assumption|exact Below.refl _ _|apply Below.next_alloc|apply Below.drew|(apply Below.next;rotate_left;assumption))))
set_option maxHeartbeats 4000000 in
set_option maxRecDepth 100000 in
theorem of_out (w : World) (r : R) (sv : Nat → Value) (start a b : Int) (hL : Lists w r sv) (hW : Wide r) (hm : mayT r start = true) (ho : a < 0 ∨ b < a ∨ 86400 < b) :
  Calls Tryz.prog 70 #[ruleV r sv, .int .i64 start, .int .i64 a, .int .i64 b] w (Gives w []) := by
 have FC : ∀ W, Below w.heap.size w W → Calls Tryz.prog 112 #[ruleV r sv, .int .i64 start] W (GivesT W r start) := fun W hB => set_yes W r sv start (hL.later hB) hW hm
 unfold ruleV ruleC at *
 replace FC := Lib.hid FC
 by_cases h0 : a < 0
 ·clear ho
  go_enter Tryz.func70, Tryz.ntmps70
  go_wp2_with (first
   | (go_at_call 112; (with_reducible refine (FC.out _ (by (repeat' (first|assumption|exact Below.refl _ _|apply Below.next_alloc|apply Below.drew|(apply Below.next;rotate_left;assumption))))).mono ?_); rintro e w1 ⟨vh, vm, vs, rfl, i1, i2, i3, hB1⟩; obtain ⟨a1, c1, rfl⟩ := ints_slice i1; obtain ⟨a2, c2, rfl⟩ := ints_slice i2; obtain ⟨a3, c3, rfl⟩ := ints_slice i3; clear i1 i2 i3; unfold timesV))
  all_goals
   go_ret
   exact gives_nil _ _ (by (repeat' (first|assumption|exact Below.refl _ _|apply Below.next_alloc|apply Below.drew|(apply Below.next;rotate_left;assumption))))
 by_cases h1 : b < a
 ·clear ho
  go_enter Tryz.func70, Tryz.ntmps70
  go_wp2_with (first
   | (go_at_call 112; (with_reducible refine (FC.out _ (by (repeat' (first|assumption|exact Below.refl _ _|apply Below.next_alloc|apply Below.drew|(apply Below.next;rotate_left;assumption))))).mono ?_); rintro e w1 ⟨vh, vm, vs, rfl, i1, i2, i3, hB1⟩; obtain ⟨a1, c1, rfl⟩ := ints_slice i1; obtain ⟨a2, c2, rfl⟩ := ints_slice i2; obtain ⟨a3, c3, rfl⟩ := ints_slice i3; clear i1 i2 i3; unfold timesV))
  all_goals
   go_ret
   exact gives_nil _ _ (by (repeat' (first|assumption|exact Below.refl _ _|apply Below.next_alloc|apply Below.drew|(apply Below.next;rotate_left;assumption))))
 have h2 : 86400 < b := by omega
 clear ho
 go_enter Tryz.func70, Tryz.ntmps70
 go_wp2_with (first
  | (go_at_call 112; (with_reducible refine (FC.out _ (by (repeat' (first|assumption|exact Below.refl _ _|apply Below.next_alloc|apply Below.drew|(apply Below.next;rotate_left;assumption))))).mono ?_); rintro e w1 ⟨vh, vm, vs, rfl, i1, i2, i3, hB1⟩; obtain ⟨a1, c1, rfl⟩ := ints_slice i1; obtain ⟨a2, c2, rfl⟩ := ints_slice i2; obtain ⟨a3, c3, rfl⟩ := ints_slice i3; clear i1 i2 i3; unfold timesV))
 all_goals
  go_ret
  exact gives_nil _ _ (by (repeat' (first|assumption|exact Below.refl _ _|apply Below.next_alloc|apply Below.drew|(apply Below.next;rotate_left;assumption))))
theorem within_in (F : Fence) (n : Nat) (hF : F.fn 113) (hro : F.round = none) (vh : Value) (ah : Nat) (vm : Value) (am : Nat) (vs : Value) (as_ : Nat) (f t : Int) (w : World) :
  CallsIn F n Tryz.prog 113 #[timesV vh ah vm am vs as_, .int .i64 f, .int .i64 t] w fun e w' => e = .returned (.func (.func 156) #[] #[.pointer (some ⟨w.heap.size, 0, none⟩), .pointer (some ⟨w.heap.size + 1, 0, none⟩), .pointer (some ⟨w.heap.size + 1 + 1, 0, none⟩)]) ∧ w' = ((w.alloc (.cells #[vh, .int .i64 ah, vm, .int .i64 am, vs, .int .i64 as_] 156)).alloc (.cells #[.int .i64 f] 3)).alloc (.cells #[.int .i64 t] 3) := by
 unfold timesV
 refine callsIn_of_wp Tryz.func113 rfl hF ?_ hro
 simp only [Tryz.ntmps113, List.size_toArray, List.length_cons, List.length_nil, Nat.reduceAdd, Nat.reduceSub, Array.replicate_succ, Array.replicate_zero, List.push_toArray, List.append_toArray, List.nil_append, List.cons_append]
 gi_wp2
 go_ret
 exact ⟨rfl, rfl⟩
end Go.Proofs.YtkbohijlhhpfbaaGreatDoor.Tm
/- The seconds of a day by their hours, minutes and seconds: the plain law. -/
namespace Go.Proofs.YtkbohijlhhpfbaaGreatDoor.Tm
open Ru
theorem firstNZ_zero : ∀ {l : List Int}, firstNZ l = 0 → ∀ x ∈ l, x = 0
 | [], _, x, hx => by cases hx
 | y :: l, h, x, hx => by
  unfold firstNZ at h
  by_cases hy : y = 0
  ·rw [if_pos hy] at h
   rcases List.mem_cons.1 hx with rfl | hx
   ·exact hy
   ·exact firstNZ_zero h x hx
  ·rw [if_neg hy] at h; exact (hy h).elim
theorem err_zero {r : R} (h : errs r = 0) (q : Nat) (h4 : 4 ≤ q) (h12 : q ≤ 12) : err r q = 0 := by
 have hc : q = 4 ∨ q = 5 ∨ q = 6 ∨ q = 7 ∨ q = 8 ∨ q = 9 ∨ q = 10 ∨ q = 11 ∨ q = 12 := by omega
 refine firstNZ_zero h _ ?_
 rcases hc with rfl | rfl | rfl | rfl | rfl | rfl | rfl | rfl | rfl <;> simp
theorem chk_errs {r : R} (h : chkR r = 0) : errs r = 0 := by
 unfold chkR at h
 split at h
 ·omega
 ·split at h
  ·omega
  ·rename_i h2; exact Classical.not_not.1 h2
theorem wrong_zero {α : Type} [DecidableEq α] {p : α → Bool} {l : List α} (h : wrong p l = 0) : l.length ≤ 12 ∧ (∀ x ∈ l, p x = false) ∧ l.Nodup := by
 unfold wrong at h
 split at h
 ·cases h
 ·rename_i h1
  split at h
  ·cases h
  ·rename_i h2
   split at h
   ·rename_i h3
    refine ⟨by omega, fun x hx => ?_, h3⟩
    cases hp : p x
    ·rfl
    ·exact (h2 (List.any_eq_true.2 ⟨x, hx, hp⟩)).elim
   ·cases h
theorem bad_in {a b x : Int} (h : bad a b false x = false) : a ≤ x ∧ x ≤ b := by
 unfold bad at h
 simp only [Bool.or_eq_false_iff, decide_eq_false_iff_not, Bool.not_false, Bool.and_true] at h
 obtain ⟨-, h2, h3, h4⟩ := h
 unfold absI at h2 h3
 rw [if_neg h4] at h2 h3
 omega
def Fine (l : List Int) (n : Nat) : Prop := l.length ≤ 12 ∧ (∀ x ∈ l, 0 ≤ x ∧ x < n) ∧ l.Nodup
theorem fine_of {r : R} (hc : chkR r = 0) : Fine r.hour 24 ∧ Fine r.min 60 ∧ Fine r.sec 60 := by
 have e := chk_errs hc
 have e6 := wrong_zero (show wrong (bad 0 23 false) r.hour = 0 from err_zero e 6 (by decide) (by decide))
 have e5 := wrong_zero (show wrong (bad 0 59 false) r.min = 0 from err_zero e 5 (by decide) (by decide))
 have e4 := wrong_zero (show wrong (bad 0 59 false) r.sec = 0 from err_zero e 4 (by decide) (by decide))
 refine ⟨⟨e6.1, fun x hx => ?_, e6.2.2⟩, ⟨e5.1, fun x hx => ?_, e5.2.2⟩, ⟨e4.1, fun x hx => ?_, e4.2.2⟩⟩
 ·have := bad_in (e6.2.1 x hx); omega
 ·have := bad_in (e5.2.1 x hx); omega
 ·have := bad_in (e4.2.1 x hx); omega
theorem rise_ext : ∀ {l m : List Int}, l.Pairwise (· < ·) → m.Pairwise (· < ·) → (∀ x, x ∈ l ↔ x ∈ m) → l = m
 | [], [], _, _, _ => rfl
 | [], b :: m, _, _, h => by have := (h b).2 (List.mem_cons_self ..); cases this
 | a :: l, [], _, _, h => by have := (h a).1 (List.mem_cons_self ..); cases this
 | a :: l, b :: m, hl, hm, h => by
  obtain ⟨ha, hl'⟩ := List.pairwise_cons.1 hl
  obtain ⟨hb, hm'⟩ := List.pairwise_cons.1 hm
  have hab : a = b := by
   rcases List.mem_cons.1 ((h a).1 (List.mem_cons_self ..)) with h1 | h1
   ·exact h1
   ·rcases List.mem_cons.1 ((h b).2 (List.mem_cons_self ..)) with h2 | h2
    ·exact h2.symm
    ·have := ha b h2; have := hb a h1; omega
  subst hab
  rw [rise_ext hl' hm' fun x => ?_]
  constructor
  ·intro hx
   rcases List.mem_cons.1 ((h x).1 (List.mem_cons_of_mem _ hx)) with h1 | h1
   ·have := ha x hx; omega
   ·exact h1
  ·intro hx
   rcases List.mem_cons.1 ((h x).2 (List.mem_cons_of_mem _ hx)) with h1 | h1
   ·have := hb x hx; omega
   ·exact h1
def upI (n : Nat) : List Int := (List.range n).map fun k : Nat => (k : Int)
theorem upI_mem {n : Nat} {x : Int} : x ∈ upI n ↔ 0 ≤ x ∧ x < n := by
 unfold upI
 rw [List.mem_map]
 constructor
 ·rintro ⟨k, hk, rfl⟩
  have := List.mem_range.1 hk
  omega
 ·rintro ⟨h0, h1⟩
  exact ⟨x.toNat, List.mem_range.2 (by omega), by omega⟩
theorem upI_rise (n : Nat) : (upI n).Pairwise (· < ·) := by
 unfold upI
 rw [List.pairwise_map]
 exact List.pairwise_lt_range.imp fun h => by omega
theorem upI_length (n : Nat) : (upI n).length = n := by simp [upI]
theorem sortI_mem {l : List Int} {x : Int} : x ∈ sortI l ↔ x ∈ l := by unfold sortI; exact List.mem_mergeSort
theorem sortI_rise {l : List Int} (h : l.Nodup) : (sortI l).Pairwise (· < ·) := by
 have h1 : (sortI l).Pairwise fun a b => decide (a ≤ b) = true := List.pairwise_mergeSort (fun a b c => by simp; omega) (fun a b => by simp; omega) l
 have h2 : (sortI l).Nodup := (List.mergeSort_perm l _).nodup_iff.2 h
 refine (h1.and h2).imp ?_
 rintro a b ⟨h3, h4⟩
 have := of_decide_eq_true h3
 omega
def okP (l : List Int) (told : Bool) (s x : Int) : Bool := if 0 < l.length then decide (x ∈ l) else (!told || decide (x = s))
theorem ch_eq (l : List Int) (told : Bool) (s : Int) (n : Nat) : chL (chAll l told n) (chList l told s) = if 0 < l.length then sortI l else if told then [s] else upI n := by
 unfold chAll chList chL
 split
 ·simp
 ·cases told
  ·simp [upI]
  ·simp
theorem ch_filter {l : List Int} {told : Bool} {s : Int} {n : Nat} (hl : Fine l n) (h0 : 0 ≤ s) (h1 : s < n) : chL (chAll l told n) (chList l told s) = (upI n).filter (okP l told s) := by
 rw [ch_eq]
 split
 ·rename_i hp
  refine rise_ext (sortI_rise hl.2.2) ((upI_rise n).filter _) fun x => ?_
  rw [sortI_mem, List.mem_filter, upI_mem]
  unfold okP
  rw [if_pos hp]
  exact ⟨fun h => ⟨hl.2.1 x h, decide_eq_true h⟩, fun h => of_decide_eq_true h.2⟩
 ·rename_i hp
  cases told
  ·rw [if_neg (by decide)]
   refine (List.filter_eq_self.2 fun x _ => ?_).symm
   unfold okP
   rw [if_neg hp]; rfl
  ·rw [if_pos rfl]
   refine rise_ext (List.pairwise_singleton ..) ((upI_rise n).filter _) fun x => ?_
   rw [List.mem_singleton, List.mem_filter, upI_mem]
   unfold okP
   rw [if_neg hp]
   constructor
   ·rintro rfl
    exact ⟨⟨h0, h1⟩, by simp⟩
   ·rintro ⟨-, h⟩
    simpa using h
theorem ch_short {l : List Int} {told : Bool} {s : Int} {n : Nat} (hl : Fine l n) (h0 : 0 ≤ s) (h1 : s < n) (hn : n ≤ 60) : chAll l told n + (chList l told s).length ≤ 100 ∧ ∀ x ∈ chL (chAll l told n) (chList l told s), 0 ≤ x ∧ x ≤ 100 := by
 rw [← chL_length, ch_filter hl h0 h1]
 refine ⟨Nat.le_trans (List.length_filter_le _ _) (by rw [upI_length]; omega), fun x hx => ?_⟩
 have := upI_mem.1 (List.mem_filter.1 hx).1
 omega
theorem may_parts {r : R} {start : Int} (hm : mayT r start = true) : 0 ≤ start ∧ start ≤ 315537897599 ∧ chkR r = 0 := by
 unfold mayT at hm
 simpa only [Bool.and_eq_true, decide_eq_true_eq] using hm
end Go.Proofs.YtkbohijlhhpfbaaGreatDoor.Tm
/- The seconds of a stretch: the walk through timeset's Of. -/
namespace Go.Proofs.YtkbohijlhhpfbaaGreatDoor.Tm
open Go.RowKit Go.Shelf Ru Ut Cw Ra
attribute [local go_sem] Oper.semAt_some
theorem enters2 : ∀ args w, (callFunc 156 args).run Tryz.prog w = .ok (.enter 156 args) w := enters_of Tryz.func156 (by kernel_rfl) rfl
def ownB (Bo : Nat) (W : World) (b : Nat) : Prop := b = Bo ∨ ∃ v, W.cell? ⟨Bo, 0, none⟩ = some v ∧ v.ownBlock = some b
def rowJ (Bo : Nat) (pre : List Int) (W : World) : Prop := Bo < W.heap.size ∧ W.frozen? ⟨Bo, 0, none⟩ = false ∧ ∃ v, W.cell? ⟨Bo, 0, none⟩ = some v ∧ OwnI W (Bo + 1) v pre
theorem ownI_grown {W W' : World} {row : Option Nat} {B : Nat} {v : Value} {l : List Int} (h : OwnI W B v l) (hg : W.grownBy W' row) (hr : ∀ r, row = some r → ∃ o : Obj, W.heap[r]? = some o ∧ o.isCells = false) : OwnI W' B v l := by
 refine ⟨h.1, h.2.imp id ?_⟩
 rintro ⟨g, cap, cur, h1, h2, h3, h4⟩
 refine ⟨g, cap, cur, h1, h2, (hg.block g (Array.getElem?_eq_some_iff.1 h3).1 fun e => ?_).trans h3, h4⟩
 obtain ⟨o, ho, hc⟩ := hr g e.symm
 rw [h3] at ho; cases ho; cases hc
theorem mine_row {B Bo : Nat} (hB : Bo < B) : Mine B (rowJ Bo) (ownB Bo) := by
 refine ⟨?_, ?_, ?_⟩
 ·rintro pre W W' row ⟨h1, h2, v, h3, h4⟩ hg hr
  have hr' : ∀ r, row = some r → ∃ o : Obj, W.heap[r]? = some o ∧ o.isCells = false := fun r e => (hr r e).2
  exact ⟨Nat.lt_of_lt_of_le h1 hg.size, (frozen_kept h3 hg hr').trans h2, v, cell_kept h3 hg hr', ownI_grown h4 hg hr'⟩
 ·rintro W W' row hBW hg hr b (rfl | ⟨v, h3, h4⟩)
  ·exact .inl rfl
  ·have hb : W'.heap[Bo]? = W.heap[Bo]? := hg.block Bo (by omega) (fun e => by have := (hr Bo e.symm).1; omega)
   exact .inr ⟨v, (World.cell?_of_block (w := W) (a := ⟨Bo, 0, none⟩) hb).symm.trans h3, h4⟩
 ·rintro pre W ⟨h1, h2, v, h3, h4⟩ b (rfl | ⟨u, h5, h6⟩)
  ·exact ⟨h1, .inl hB⟩
  ·rw [h3] at h5
   cases h5
   rcases h4 with ⟨_, ⟨rfl, _⟩ | ⟨g, cap, cur, rfl, h7, h8, _⟩⟩
   ·cases h6
   ·cases h6
    exact ⟨(Array.getElem?_eq_some_iff.1 h8).1, .inr ⟨_, h8, rfl⟩⟩
theorem push_in {F : Fence} {n : Nat} {ops : Array Oper} {rest : List Oper} {o : Oper} {a : Act} {Q : Exit → Act → World → Prop} {W : World} {T' : TypeId} {z : Int} (hgd : o.guard = none) (s x : Operand)
  (ho : o.op = .call { callee := .builtin .append, args := #[s, x], argTypes := #[24, 24] }) (B : Nat) (v : Value) (l : List Int) (hs : a.eval s = v) (hown : OwnI W B v l)
  (hx : a.eval x = .slice (some ⟨W.heap.size, 0, none⟩) 1 1) (hn : l.length ≤ 2000000) (hB : B ≤ W.heap.size)
  (h : ∀ v' w', OwnI w' B v' (l ++ [z]) → (W.alloc (.cells #[.int .i64 z] T')).grownBy w' v.ownBlock → (v'.ownBlock = v.ownBlock ∨ v'.ownBlock = some (W.heap.size + 1)) → wpListIn F n Tryz.prog ops Q rest (a.put o.dst v') w') : wpListIn F n Tryz.prog ops Q (o :: rest) a (W.alloc (.cells #[.int .i64 z] T')) := by
 obtain ⟨i0, hi, hz0, hz1, hz2⟩ := info_parts infoInt
 refine wpListIn_append_own_at _ hgd s x _ ho B 3 i0 (.int .i64 0) 1 8 Tryz.underlying24 hi hz0 hz1 hz2 rfl (by decide) v l.length (ic l) hs (World.ownsRow.alloc hown _)
  ⟨W.heap.size, 0, none⟩ 1 1 [.int .i64 z] hx rfl (cell_one_new _ _ _) (by simp [Value.oneCell']) (by unfold maxLen; omega) (by omega) (by simp; omega) fun v' w' h1 h2 _ h4 => ?_
 refine h v' w' ?_ h2 (h4.imp id (fun e => by rw [e, World.size_alloc]))
 unfold OwnI
 rw [ic_snoc, List.length_append]
 exact h1
def secs (r : R) (start a b : Int) : List Int := dayOut a b (hourL r start) (minL r start) (secL r start)
def GivesS (w : World) (lh : List Int) (ah : Nat) (lm : List Int) (am : Nat) (ls : List Int) (as_ : Nat) (e : Ending) (w' : World) : Prop := ∃ a1 c1 a2 c2 a3 c3, e = .returned (.tuple #[.agg #[.slice a1 lh.length c1, .int .i64 ah, .slice a2 lm.length c2, .int .i64 am, .slice a3 ls.length c3, .int .i64 as_], .bool true]) ∧
 Ints w' (.slice a1 lh.length c1) lh ∧ Ints w' (.slice a2 lm.length c2) lm ∧ Ints w' (.slice a3 ls.length c3) ls ∧ Below w.heap.size w w'
theorem givesS {w : World} {r : R} {start : Int} {e : Ending} {w' : World} (h : GivesT w r start e w') : GivesS w (chList r.hour (toldH r) (start % 86400 / 3600)) (chAll r.hour (toldH r) 24) (chList r.min (toldM r) (start % 86400 / 60 % 60)) (chAll r.min (toldM r) 60) (chList r.sec (toldS r) (start % 60)) (chAll r.sec (toldS r) 60) e w' := by
 obtain ⟨vh, vm, vs, rfl, i1, i2, i3, hB⟩ := h
 obtain ⟨a1, c1, rfl⟩ := ints_slice i1
 obtain ⟨a2, c2, rfl⟩ := ints_slice i2
 obtain ⟨a3, c3, rfl⟩ := ints_slice i3
 exact ⟨a1, c1, a2, c2, a3, c3, rfl, i1, i2, i3, hB⟩
theorem box_same {W w5 : World} {Bo : Nat} {v : Value} (hb : w5.heap[Bo]? = W.heap[Bo]?) (h2 : W.frozen? ⟨Bo, 0, none⟩ = false) (h3 : W.cell? ⟨Bo, 0, none⟩ = some v) : w5.cell? ⟨Bo, 0, none⟩ = some v ∧ w5.frozen? ⟨Bo, 0, none⟩ = false :=
 ⟨(World.cell?_of_block (w := W) (a := ⟨Bo, 0, none⟩) hb).trans h3, by unfold World.frozen? at h2 ⊢; rw [hb]; exact h2⟩
theorem push_block {W w5 : World} {Bo : Nat} {v : Value} {pre : List Int} {o : Obj} (g1 : Bo < W.heap.size) (g4 : OwnI W (Bo + 1) v pre) (hg : (W.alloc o).grownBy w5 v.ownBlock) : w5.heap[Bo]? = W.heap[Bo]? :=
 (hg.block Bo (by simp; omega) (fun e => by have := (World.ownsRow.lt g4 Bo e.symm).1; omega)).trans (Below.heap_alloc W o Bo g1)
theorem after_push {W w5 : World} {Bo : Nat} {v v5 : Value} {pre : List Int} {x : Int} {o : Obj} (g1 : Bo < W.heap.size) (g2 : W.frozen? ⟨Bo, 0, none⟩ = false) (g3 : W.cell? ⟨Bo, 0, none⟩ = some v) (g4 : OwnI W (Bo + 1) v pre)
  (h5 : OwnI w5 (Bo + 1) v5 (pre ++ [x])) (hg : (W.alloc o).grownBy w5 v.ownBlock) (hob : v5.ownBlock = v.ownBlock ∨ v5.ownBlock = some (W.heap.size + 1)) :
  rowJ Bo (pre ++ [x]) (w5.setCell ⟨Bo, 0, none⟩ v5) ∧ After (ownB Bo) W (w5.setCell ⟨Bo, 0, none⟩ v5) := by
 obtain ⟨c6, f6⟩ := box_same (push_block g1 g4 hg) g2 g3
 have hsz : W.heap.size + 1 ≤ w5.heap.size := by have := hg.size; simpa using this
 have c7 : (w5.setCell ⟨Bo, 0, none⟩ v5).cell? ⟨Bo, 0, none⟩ = some v5 := World.cell?_setCell_same' _ _ _ (by rw [c6]; rfl)
 refine ⟨⟨by simp; omega, by simpa using f6, v5, c7, ownsRow_setCell_below h5 (by simp) _⟩, by simp; omega, ?_, ?_⟩
 ·rintro b (rfl | ⟨u, hu, hb⟩)
  ·exact .inl (.inl rfl)
  ·rw [c7] at hu
   cases hu
   rcases hob with h | h
   ·exact .inl (.inr ⟨v, g3, h.symm.trans hb⟩)
   ·rw [h] at hb; cases hb; exact .inr (by omega)
 ·intro b hb hno
  have hne : b ≠ Bo := fun e => hno (.inl e)
  exact (Below.heap_setCell _ _ _ _ hne).trans ((hg.block b (by simp; omega) (fun e => hno (.inr ⟨v, g3, e.symm⟩))).trans (Below.heap_alloc W o b hb))
def rowK (w0 : World) (Bo : Nat) (pre : List Int) (W : World) : Prop := rowJ Bo pre W ∧ Below w0.heap.size w0 W
theorem mine_rowK {w0 : World} {B Bo : Nat} (hB : Bo < B) (h0 : w0.heap.size ≤ B) : Mine B (rowK w0 Bo) (ownB Bo) :=
 ⟨fun pre W W' row h hg hr => ⟨(mine_row hB).stays pre W W' row h.1 hg hr, h.2.grown hg h.2.size fun k hk => by have := (hr k hk).1; omega⟩, (mine_row hB).owns, fun pre W h => (mine_row hB).lies pre W h.1⟩
theorem five {w1 : World} {A C : Array Value} {x y z : Value} (t1 t2 t3 t4 t5 : TypeId) :
  let W := ((((w1.alloc (.cells A t1)).alloc (.cells #[x] t2)).alloc (.cells C t3)).alloc (.cells #[y] t4)).alloc (.cells #[z] t5)
  W.heap.size = w1.heap.size + 1 + 1 + 1 + 1 + 1 ∧ Below w1.heap.size w1 W ∧ (W.cell? ⟨w1.heap.size + 1, 0, none⟩ = some x ∧ W.frozen? ⟨w1.heap.size + 1, 0, none⟩ = false) ∧
   (∀ i v, C[i]? = some v → W.cell? ⟨w1.heap.size + 1 + 1, i, none⟩ = some v) ∧ W.cell? ⟨w1.heap.size + 1 + 1 + 1, 0, none⟩ = some y ∧ W.cell? ⟨w1.heap.size + 1 + 1 + 1 + 1, 0, none⟩ = some z := by
 intro W
 have k : ∀ (V : World) (o : Obj) (p : Addr) (v : Value), V.cell? p = some v → (V.alloc o).cell? p = some v := fun V o p v h => cell_alloc_l o h
 have e1 := cell_new_l (w1.alloc (.cells A t1)) x t2
 have e2 : ∀ i v, C[i]? = some v → (((w1.alloc (.cells A t1)).alloc (.cells #[x] t2)).alloc (.cells C t3)).cell? ⟨((w1.alloc (.cells A t1)).alloc (.cells #[x] t2)).heap.size, i, none⟩ = some v := fun i v h => (World.cell?_alloc_new _ C t3 i).trans h
 have e3 := (cell_new_l (((w1.alloc (.cells A t1)).alloc (.cells #[x] t2)).alloc (.cells C t3)) y t4).1
 have e4 := (cell_new_l ((((w1.alloc (.cells A t1)).alloc (.cells #[x] t2)).alloc (.cells C t3)).alloc (.cells #[y] t4)) z t5).1
 simp only [World.size_alloc] at e1 e2 e3 e4
 refine ⟨by simp [W], ?_, ⟨k _ _ _ _ (k _ _ _ _ (k _ _ _ _ e1.1)), ?_⟩, fun i v h => k _ _ _ _ (k _ _ _ _ (e2 i v h)), k _ _ _ _ e3, e4⟩
 ·exact (((((Below.refl _ w1).alloc (Nat.le_refl _) _).alloc (by simp) _).alloc (by simp; omega) _).alloc (by simp; omega) _).alloc (by simp; omega) _
 ·exact frozen_alloc_l _ (k _ _ _ _ (k _ _ _ _ e1.1)) (frozen_alloc_l _ (k _ _ _ _ e1.1) (frozen_alloc_l _ e1.1 e1.2))
set_option maxRecDepth 100000 in
set_option maxHeartbeats 8000000 in
theorem of_core (w : World) (r : R) (sv : Nat → Value) (start a b : Int) (lh : List Int) (ah : Nat) (lm : List Int) (am : Nat) (ls : List Int) (as_ : Nat)
  (FC : ∀ W, Below w.heap.size w W → Calls Tryz.prog 112 #[ruleV r sv, .int .i64 start] W (GivesS W lh ah lm am ls as_)) (hah : ah + lh.length ≤ 100) (ham : am + lm.length ≤ 100) (has : as_ + ls.length ≤ 100)
  (hsh : ∀ x ∈ chL ah lh, 0 ≤ x ∧ x ≤ 100) (hsm : ∀ x ∈ chL am lm, 0 ≤ x ∧ x ≤ 100) (hss : ∀ x ∈ chL as_ ls, 0 ≤ x ∧ x ≤ 100) (ha : 0 ≤ a) (hab : a ≤ b) (hb : b ≤ 86400) :
  CallsIn Fence.wide 20 Tryz.prog 70 #[ruleV r sv, .int .i64 start, .int .i64 a, .int .i64 b] w (Gives w (dayOut a b (chL ah lh) (chL am lm) (chL as_ ls))) := by
 unfold ruleV ruleC at *
 replace FC := Lib.hid FC
 replace hsh := Lib.hid hsh
 replace hsm := Lib.hid hsm
 replace hss := Lib.hid hss
 replace hah := Lib.hid hah
 replace ham := Lib.hid ham
 replace has := Lib.hid has
 have h17 : Fence.wide.fn 112 := trivial
 have h25 : Fence.wide.fn 113 := trivial
 refine callsIn_of_wp_marks Tryz.func70 rfl trivial ?_ rfl
 simp only [Tryz.ntmps70, List.size_toArray, List.length_cons, List.length_nil, Nat.reduceAdd, Nat.reduceSub, Array.replicate_succ, Array.replicate_zero, List.push_toArray, List.append_toArray, List.nil_append, List.cons_append]
 gi_wp2_with (first
  | (gi_at_call 112; (with_reducible refine (callsIn_wide.2 (FC.out _ (by (repeat' (first|assumption|exact Below.refl _ _|apply Below.next_alloc|apply Below.drew|(apply Below.next;rotate_left;assumption)))))).mono ?_); rintro e w1 ⟨a1, c1, a2, c2, a3, c3, rfl, i1, i2, i3, hB1⟩; replace i1 := Lib.hid i1; replace i2 := Lib.hid i2; replace i3 := Lib.hid i3; replace hB1 := Lib.hid (Below.next (Below.next_alloc (Below.refl _ _) _) hB1))
  | (gi_at_call 113; refine (within_in _ _ trivial rfl _ _ _ _ _ _ _ _ _).mono ?_; rintro e w2 ⟨rfl, rfl⟩))
 clear h17 h25 FC
 obtain ⟨hs5, hb5, ⟨c5, f5⟩, t5, y5, z5⟩ := five (w1 := w1) (A := #[.slice a1 lh.length c1, .int .i64 ah, .slice a2 lm.length c2, .int .i64 am, .slice a3 ls.length c3, .int .i64 as_]) (C := #[.slice a1 lh.length c1, .int .i64 ah, .slice a2 lm.length c2, .int .i64 am, .slice a3 ls.length c3, .int .i64 as_]) (x := .slice none 0 0) (y := .int .i64 a) (z := .int .i64 b) 156 24 156 3 3
 replace t5 := Lib.hid t5
 obtain ⟨W5, hW5⟩ : ∃ W5, (((((w1.alloc (.cells #[.slice a1 lh.length c1, .int .i64 ah, .slice a2 lm.length c2, .int .i64 am, .slice a3 ls.length c3, .int .i64 as_] 156)).alloc (.cells #[.slice none 0 0] 24)).alloc (.cells #[.slice a1 lh.length c1, .int .i64 ah, .slice a2 lm.length c2, .int .i64 am, .slice a3 ls.length c3, .int .i64 as_] 156)).alloc (.cells #[.int .i64 a] 3)).alloc (.cells #[.int .i64 b] 3)) = W5 := ⟨_, rfl⟩
 rw [hW5] at hs5 hb5 c5 f5 t5 y5 z5 ⊢
 clear hW5
 have hI0 : rowK w (w1.heap.size + 1) [] W5 := ⟨⟨by omega, f5, _, c5, OwnI.nil _ _⟩, Below.next hB1.out hb5⟩
 have hws := hB1.out.size
 have hM : Mine W5.heap.size (rowK w (w1.heap.size + 1)) (ownB (w1.heap.size + 1)) := mine_rowK (by omega) (by omega)
 have j1 := intsL' i1.out hb5 (L := [w1.heap.size + 1 + 1, w1.heap.size + 1 + 1 + 1, w1.heap.size + 1 + 1 + 1 + 1] ++ (blkL (.slice a1 lh.length c1) lh ++ (blkL (.slice a2 lm.length c2) lm ++ blkL (.slice a3 ls.length c3) ls))) (fun b hb => by simp [hb])
 have j2 := intsL' i2.out hb5 (L := [w1.heap.size + 1 + 1, w1.heap.size + 1 + 1 + 1, w1.heap.size + 1 + 1 + 1 + 1] ++ (blkL (.slice a1 lh.length c1) lh ++ (blkL (.slice a2 lm.length c2) lm ++ blkL (.slice a3 ls.length c3) ls))) (fun b hb => by simp [hb])
 have j3 := intsL' i3.out hb5 (L := [w1.heap.size + 1 + 1, w1.heap.size + 1 + 1 + 1, w1.heap.size + 1 + 1 + 1 + 1] ++ (blkL (.slice a1 lh.length c1) lh ++ (blkL (.slice a2 lm.length c2) lm ++ blkL (.slice a3 ls.length c3) ls))) (fun b hb => by simp [hb])
 have k1 := blkL_lt i1.out
 have k2 := blkL_lt i2.out
 have k3 := blkL_lt i3.out
 obtain ⟨L0, hL0e⟩ : ∃ L0, [w1.heap.size + 1 + 1, w1.heap.size + 1 + 1 + 1, w1.heap.size + 1 + 1 + 1 + 1] ++ (blkL (.slice a1 lh.length c1) lh ++ (blkL (.slice a2 lm.length c2) lm ++ blkL (.slice a3 ls.length c3) ls)) = L0 := ⟨_, rfl⟩
 rw [hL0e] at j1 j2 j3
 have hL0 : ∀ b ∈ L0, b < W5.heap.size ∧ b ≠ w1.heap.size + 1 := fun b hb => by
  rw [← hL0e] at hb
  simp only [List.mem_append, List.mem_cons, List.not_mem_nil, or_false] at hb
  rcases hb with (rfl | rfl | rfl) | hb | hb | hb
  ·omega
  ·omega
  ·omega
  ·have := k1 b hb; omega
  ·have := k2 b hb; omega
  ·have := k3 b hb; omega
 have hC0 : Caught L0 W5 (w1.heap.size + 1 + 1) (w1.heap.size + 1 + 1 + 1) (w1.heap.size + 1 + 1 + 1 + 1) a b (.slice a1 lh.length c1) ah lh (.slice a2 lm.length c2) am lm (.slice a3 ls.length c3) as_ ls :=
  ⟨⟨by rw [← hL0e]; simp, by rw [← hL0e]; simp, by rw [← hL0e]; simp⟩, ⟨t5.out 0 _ rfl, t5.out 1 _ rfl, t5.out 2 _ rfl, t5.out 3 _ rfl, t5.out 4 _ rfl, t5.out 5 _ rfl⟩, ⟨y5, z5⟩, j1, j2, j3⟩
 have hno : ∀ b, ownB (w1.heap.size + 1) W5 b → b = w1.heap.size + 1 := fun b hb => by
  rcases hb with h | ⟨v, hv, ho⟩
  ·exact h
  ·rw [c5] at hv; cases hv; cases ho
 clear hL0e j1 j2 j3 k1 k2 k3 t5 y5 z5 i1 i2 i3
 refine wpIn_range_mine (N := 2000000) rfl (by decide) (gf := 156) (lb := #[.pointer (some ⟨w1.heap.size + 1 + 1, 0, none⟩), .pointer (some ⟨w1.heap.size + 1 + 1 + 1, 0, none⟩), .pointer (some ⟨w1.heap.size + 1 + 1 + 1 + 1, 0, none⟩)]) rfl trivial enters2 rfl (rowK w (w1.heap.size + 1)) (ownB (w1.heap.size + 1)) (dayOut a b (chL ah lh) (chL am lm) (chL as_ ls)) hM ?iter hI0
  (fun x => { tmps := #[.agg #[.int .u8 r.freq, .int .i64 r.interval, .int .i64 r.count, .int .u8 r.uk, .int .i64 r.us, sv 4, sv 5, sv 6, sv 7, sv 8, sv 9, sv 10, sv 11, sv 12, .int .i64 r.wkst], .int .i64 start, .int .i64 a, .int .i64 b, .pointer (some ⟨w.heap.size, 0, none⟩), undef, undef, undef, .slice none 0 0, .pointer (some ⟨w1.heap.size, 0, none⟩), .bool true, .pointer (some ⟨w1.heap.size + 1, 0, none⟩), .int .i64 x, .tuple #[.agg #[.slice a1 lh.length c1, .int .i64 ah, .slice a2 lm.length c2, .int .i64 am, .slice a3 ls.length c3, .int .i64 as_], .bool true], .agg #[.int .u8 r.freq, .int .i64 r.interval, .int .i64 r.count, .int .u8 r.uk, .int .i64 r.us, sv 4, sv 5, sv 6, sv 7, sv 8, sv 9, sv 10, sv 11, sv 12, .int .i64 r.wkst], .int .i64 start, .tuple #[.agg #[.slice a1 lh.length c1, .int .i64 ah, .slice a2 lm.length c2, .int .i64 am, .slice a3 ls.length c3, .int .i64 as_], .bool true], .agg #[.slice a1 lh.length c1, .int .i64 ah, .slice a2 lm.length c2, .int .i64 am, .slice a3 ls.length c3, .int .i64 as_], .bool true, .bool true, .bool false, .bool false, .int .i64 a, .bool (decide (a < 0)), .bool (decide (a < 0)), .bool (decide (a < 0)), .int .i64 a, .int .i64 b, .bool (decide (b < a)), .bool (decide (a < 0) || decide (b < a)), .bool (decide (a < 0) || decide (b < a)), .int .i64 b, .bool (decide (86400 < b)), .bool (decide (a < 0) || decide (b < a) || decide (86400 < b)), .agg #[.slice a1 lh.length c1, .int .i64 ah, .slice a2 lm.length c2, .int .i64 am, .slice a3 ls.length c3, .int .i64 as_], .int .i64 a, .int .i64 b, .func (.func 156) #[] #[.pointer (some ⟨w1.heap.size + 1 + 1, 0, none⟩), .pointer (some ⟨w1.heap.size + 1 + 1 + 1, 0, none⟩), .pointer (some ⟨w1.heap.size + 1 + 1 + 1 + 1, 0, none⟩)], .int .i64 x, undef, undef, undef, undef, undef], defers := [] }) ?assign ?body ?done
 case iter =>
  intro lp J W hBW hMJ hown hY hJ0
  have hkeep : KeepsL L0 W5 W := ⟨hBW.size, fun b hb => hBW.block b (hL0 b hb).1⟩
  exact within1_in Fence.wide 19 trivial trivial trivial rfl (by decide) lp W L0 _ _ _ a b _ ah lh _ am lm _ as_ ls (fun b hb => Nat.lt_of_lt_of_le (hL0 b hb).1 hBW.size) (hC0.keep hkeep) hah.out ham.out has.out hsh.out hsm.out hss.out (by omega) (by omega) J (ownB (w1.heap.size + 1)) hMJ
   (fun b hb h => (hL0 b hb).2 (hno b (hown b h))) hY hJ0
 case assign =>
  intro l m x W K hK
  gi_wp2
  exact hK
 case body =>
  rintro l m pre x W hWs ⟨⟨g1, g2, v, g3, g4⟩, hBW⟩ hlen
  obtain ⟨av, cap, rfl⟩ := g4.slice
  gi_wp2_with (first
   | (gi_at_builtin; refine push_in rfl _ _ rfl (w1.heap.size + 1 + 1) _ pre rfl g4 rfl hlen (by omega) ?_; intro v5 w5 h5 hg5 hob5; obtain ⟨au, cu, e5⟩ := h5.slice; simp only [List.length_append, List.length_cons, List.length_nil, Nat.zero_add] at e5; subst e5; obtain ⟨c6, f6⟩ := box_same (push_block g1 g4 hg5) g2 g3))
  have hp := after_push g1 g2 g3 g4 h5 hg5 hob5
  exact ⟨⟨hp.1, ((Below.next_alloc hBW _).grown hg5 (by simp; omega) fun k hk => by have := (World.ownsRow.lt g4 k hk).1; omega).setCell (p := ⟨w1.heap.size + 1, 0, none⟩) (by simp only; omega) _⟩, hp.2⟩
 case done =>
  rintro D W hD ⟨⟨g1, g2, v, g3, g4⟩, hBW⟩ hDe
  obtain ⟨av, cap, rfl⟩ := g4.slice
  gi_wp2
  refine ⟨by simp, .inl ⟨_, _, rfl, run_takeDeferred hDe, ?_⟩⟩
  refine ⟨.slice av (dayOut a b (chL ah lh) (chL am lm) (chL as_ ls)).length cap, by simp [results, Tryz.results70, go_sem], ⟨_, rfl, ?_, hBW.grown (grownBy_putObj' W D _) hBW.size (fun k hk => by cases hk; omega)⟩⟩
  exact OwnI.base (ownI_grown g4 (grownBy_putObj' W D _) (fun r e => by cases e; exact ⟨_, hDe, rfl⟩)) (by omega)
theorem of_yes (w : World) (r : R) (sv : Nat → Value) (start a b : Int) (hL : Lists w r sv) (hW : Wide r) (hm : mayT r start = true) (ha : 0 ≤ a) (hab : a ≤ b) (hb : b ≤ 86400) :
  Calls Tryz.prog 70 #[ruleV r sv, .int .i64 start, .int .i64 a, .int .i64 b] w (Gives w (secs r start a b)) := by
 obtain ⟨h0, h1, hc⟩ := may_parts hm
 obtain ⟨f1, f2, f3⟩ := fine_of hc
 have e1 := ch_short (told := toldH r) (s := start % 86400 / 3600) f1 (by omega) (by omega) (by omega)
 have e2 := ch_short (told := toldM r) (s := start % 86400 / 60 % 60) f2 (by omega) (by omega) (by omega)
 have e3 := ch_short (told := toldS r) (s := start % 60) f3 (by omega) (by omega) (by omega)
 exact (callsIn_wide (n := 20)).1 (of_core w r sv start a b _ _ _ _ _ _ (fun W hB => (set_yes W r sv start (hL.later hB) hW hm).mono fun e w' h => givesS h) e1.1 e2.1 e3.1 e1.2 e2.2 e3.2 ha hab hb)
end Go.Proofs.YtkbohijlhhpfbaaGreatDoor.Tm
/- Whether a second passes, and how many do: the walks through timeset's Passes and Count. -/
namespace Go.Proofs.YtkbohijlhhpfbaaGreatDoor.Tm
open Go.RowKit Go.Shelf Ru Ut Cw Ra
def passT (r : R) (start t : Int) : Bool := mayT r start && (decide (0 ≤ t) && (decide (t < 86400) && (decide (t / 3600 ∈ hourL r start) && (decide (t / 60 % 60 ∈ minL r start) && decide (t % 60 ∈ secL r start)))))
def secsOf (r : R) (start a b : Int) : List Int := if mayT r start = true ∧ 0 ≤ a ∧ a ≤ b ∧ b ≤ 86400 then secs r start a b else []
theorem tof_any (w : World) (r : R) (sv : Nat → Value) (start a b : Int) (hL : Lists w r sv) (hW : Wide r) :
  Calls Tryz.prog 70 #[ruleV r sv, .int .i64 start, .int .i64 a, .int .i64 b] w (Gives w (secsOf r start a b)) := by
 unfold secsOf
 cases hm : mayT r start
 ·rw [if_neg (fun h => by cases h.1)]
  exact of_no w r sv start a b hL hW hm
 ·by_cases hr : 0 ≤ a ∧ a ≤ b ∧ b ≤ 86400
  ·rw [if_pos ⟨rfl, hr⟩]
   exact of_yes w r sv start a b hL hW hm hr.1 hr.2.1 hr.2.2
  ·rw [if_neg (fun h => hr h.2)]
   exact of_out w r sv start a b hL hW hm (by omega)
end Go.Proofs.YtkbohijlhhpfbaaGreatDoor.Tm

import Derived.Test.YtkbohijlhhpfbaaGreatDoorVRm
import Derived.Test.YtkbohijlhhpfbaaGreatDoorVRj
import Derived.Laws.AppendOwnNone
import Derived.Deep.AppendLies
import Derived.Test.YtkbohijlhhpfbaaGreatDoorVRn
import Derived.Deep.RegionHeld3
import Derived.Deep.SlicePairs
import Derived.OpenShut
import Derived.WideShapes
import Derived.ChangeMaps5
/- The walks through errandlaw21's Small and ints, and errandlaw20's Own. -/
namespace Go.Proofs.YtkbohijlhhpfbaaGreatDoor.Ra
open Go.RowKit Ru Ut Cw
def smallR (r : R) : Bool := decide (r.sec.length ≤ 20 ∧ r.min.length ≤ 20 ∧ r.hour.length ≤ 20 ∧ r.day.length ≤ 20 ∧ r.mday.length ≤ 20 ∧ r.yday.length ≤ 20 ∧ r.weekno.length ≤ 20 ∧ r.month.length ≤ 20 ∧ r.setpos.length ≤ 20)
theorem smallR_iff {r : R} : smallR r = true ↔ (r.sec.length ≤ 20 ∧ r.min.length ≤ 20 ∧ r.hour.length ≤ 20 ∧ r.day.length ≤ 20 ∧ r.mday.length ≤ 20 ∧ r.yday.length ≤ 20 ∧ r.weekno.length ≤ 20 ∧ r.month.length ≤ 20 ∧ r.setpos.length ≤ 20) := decide_eq_true_iff
theorem smallR_no {r : R} (h : ¬ (r.sec.length ≤ 20 ∧ r.min.length ≤ 20 ∧ r.hour.length ≤ 20 ∧ r.day.length ≤ 20 ∧ r.mday.length ≤ 20 ∧ r.yday.length ≤ 20 ∧ r.weekno.length ≤ 20 ∧ r.month.length ≤ 20 ∧ r.setpos.length ≤ 20)) : smallR r = false := decide_eq_false h
set_option maxHeartbeats 4000000 in
set_option maxRecDepth 100000 in
theorem small_any (w : World) (r : R) (sv : Nat → Value) (hL : Lists w r sv) (hn : ∀ q, 4 ≤ q → q ≤ 12 → q ≠ 7 → (lst r q).length ≤ 9223372036854775807) (hn7 : r.day.length ≤ 9223372036854775807) : Calls Tryz.prog 9 #[.agg (ruleC r sv)] w fun e w' => e = .returned (.bool (smallR r)) ∧ Below w.heap.size w w' := by
 obtain ⟨a4, k4, e4⟩ := (hL.1 4 (by decide) (by decide) (by decide)).slice
 change sv 4 = .slice a4 r.sec.length k4 at e4
 have n4 : r.sec.length ≤ 9223372036854775807 := hn 4 (by decide) (by decide) (by decide)
 obtain ⟨a5, k5, e5⟩ := (hL.1 5 (by decide) (by decide) (by decide)).slice
 change sv 5 = .slice a5 r.min.length k5 at e5
 have n5 : r.min.length ≤ 9223372036854775807 := hn 5 (by decide) (by decide) (by decide)
 obtain ⟨a6, k6, e6⟩ := (hL.1 6 (by decide) (by decide) (by decide)).slice
 change sv 6 = .slice a6 r.hour.length k6 at e6
 have n6 : r.hour.length ≤ 9223372036854775807 := hn 6 (by decide) (by decide) (by decide)
 obtain ⟨a8, k8, e8⟩ := (hL.1 8 (by decide) (by decide) (by decide)).slice
 change sv 8 = .slice a8 r.mday.length k8 at e8
 have n8 : r.mday.length ≤ 9223372036854775807 := hn 8 (by decide) (by decide) (by decide)
 obtain ⟨a9, k9, e9⟩ := (hL.1 9 (by decide) (by decide) (by decide)).slice
 change sv 9 = .slice a9 r.yday.length k9 at e9
 have n9 : r.yday.length ≤ 9223372036854775807 := hn 9 (by decide) (by decide) (by decide)
 obtain ⟨a10, k10, e10⟩ := (hL.1 10 (by decide) (by decide) (by decide)).slice
 change sv 10 = .slice a10 r.weekno.length k10 at e10
 have n10 : r.weekno.length ≤ 9223372036854775807 := hn 10 (by decide) (by decide) (by decide)
 obtain ⟨a11, k11, e11⟩ := (hL.1 11 (by decide) (by decide) (by decide)).slice
 change sv 11 = .slice a11 r.month.length k11 at e11
 have n11 : r.month.length ≤ 9223372036854775807 := hn 11 (by decide) (by decide) (by decide)
 obtain ⟨a12, k12, e12⟩ := (hL.1 12 (by decide) (by decide) (by decide)).slice
 change sv 12 = .slice a12 r.setpos.length k12 at e12
 have n12 : r.setpos.length ≤ 9223372036854775807 := hn 12 (by decide) (by decide) (by decide)
 obtain ⟨a7, k7, e7⟩ := hL.2.slice
 unfold ruleC
 rw [e4, e5, e6, e7, e8, e9, e10, e11, e12]
 clear e4 e5 e6 e7 e8 e9 e10 e11 e12 hL hn
 by_cases c4 : r.sec.length ≤ 20
 rotate_left
 ·have hr := Lib.hid (smallR_no (r := r) (by omega))
  go_enter Tryz.func9, Tryz.ntmps9
  go_wp2
  go_ret
  exact ⟨ret_b hr.out.symm, by (repeat' (first|assumption|exact Below.refl _ _|apply Below.next_alloc|apply Below.drew|(apply Below.next;rotate_left;assumption)))⟩
 by_cases c5 : r.min.length ≤ 20
 rotate_left
 ·have hr := Lib.hid (smallR_no (r := r) (by omega))
  go_enter Tryz.func9, Tryz.ntmps9
  go_wp2
  go_ret
  exact ⟨ret_b hr.out.symm, by (repeat' (first|assumption|exact Below.refl _ _|apply Below.next_alloc|apply Below.drew|(apply Below.next;rotate_left;assumption)))⟩
 by_cases c6 : r.hour.length ≤ 20
 rotate_left
 ·have hr := Lib.hid (smallR_no (r := r) (by omega))
  go_enter Tryz.func9, Tryz.ntmps9
  go_wp2
  go_ret
  exact ⟨ret_b hr.out.symm, by (repeat' (first|assumption|exact Below.refl _ _|apply Below.next_alloc|apply Below.drew|(apply Below.next;rotate_left;assumption)))⟩
 by_cases c7 : r.day.length ≤ 20
 rotate_left
 ·have hr := Lib.hid (smallR_no (r := r) (by omega))
  go_enter Tryz.func9, Tryz.ntmps9
  go_wp2
  go_ret
  exact ⟨ret_b hr.out.symm, by (repeat' (first|assumption|exact Below.refl _ _|apply Below.next_alloc|apply Below.drew|(apply Below.next;rotate_left;assumption)))⟩
 by_cases c8 : r.mday.length ≤ 20
 rotate_left
 ·have hr := Lib.hid (smallR_no (r := r) (by omega))
  go_enter Tryz.func9, Tryz.ntmps9
  go_wp2
  go_ret
  exact ⟨ret_b hr.out.symm, by (repeat' (first|assumption|exact Below.refl _ _|apply Below.next_alloc|apply Below.drew|(apply Below.next;rotate_left;assumption)))⟩
 by_cases c9 : r.yday.length ≤ 20
 rotate_left
 ·have hr := Lib.hid (smallR_no (r := r) (by omega))
  go_enter Tryz.func9, Tryz.ntmps9
  go_wp2
  go_ret
  exact ⟨ret_b hr.out.symm, by (repeat' (first|assumption|exact Below.refl _ _|apply Below.next_alloc|apply Below.drew|(apply Below.next;rotate_left;assumption)))⟩
 by_cases c10 : r.weekno.length ≤ 20
 rotate_left
 ·have hr := Lib.hid (smallR_no (r := r) (by omega))
  go_enter Tryz.func9, Tryz.ntmps9
  go_wp2
  go_ret
  exact ⟨ret_b hr.out.symm, by (repeat' (first|assumption|exact Below.refl _ _|apply Below.next_alloc|apply Below.drew|(apply Below.next;rotate_left;assumption)))⟩
 by_cases c11 : r.month.length ≤ 20
 rotate_left
 ·have hr := Lib.hid (smallR_no (r := r) (by omega))
  go_enter Tryz.func9, Tryz.ntmps9
  go_wp2
  go_ret
  exact ⟨ret_b hr.out.symm, by (repeat' (first|assumption|exact Below.refl _ _|apply Below.next_alloc|apply Below.drew|(apply Below.next;rotate_left;assumption)))⟩
 by_cases c12 : r.setpos.length ≤ 20
 rotate_left
 ·have hr := Lib.hid (smallR_no (r := r) (by omega))
  go_enter Tryz.func9, Tryz.ntmps9
  go_wp2
  go_ret
  exact ⟨ret_b ((decide_eq_false (by omega)).trans hr.out.symm), by (repeat' (first|assumption|exact Below.refl _ _|apply Below.next_alloc|apply Below.drew|(apply Below.next;rotate_left;assumption)))⟩
 have hr := Lib.hid (smallR_iff.2 ⟨c4, c5, c6, c7, c8, c9, c10, c11, c12⟩)
 go_enter Tryz.func9, Tryz.ntmps9
 go_wp2
 go_ret
 exact ⟨ret_b ((decide_eq_true (by omega)).trans hr.out.symm), by (repeat' (first|assumption|exact Below.refl _ _|apply Below.next_alloc|apply Below.drew|(apply Below.next;rotate_left;assumption)))⟩
def dc : List (Int × Int) → List Value
 | [] => []
 | d :: l => .int .i64 d.1 :: .int .i64 d.2 :: dc l
theorem dc_append : ∀ l m, dc (l ++ m) = dc l ++ dc m
 | [], _ => rfl
 | d :: l, m => by simp only [List.cons_append, dc, dc_append l m]
theorem dc_at : ∀ (l : List (Int × Int)) (i : Nat) (h : i < l.length), (dc l)[i * 2]? = some (.int .i64 l[i].1) ∧ (dc l)[i * 2 + 1]? = some (.int .i64 l[i].2)
 | d :: l, 0, _ => by simp [dc]
 | d :: l, i + 1, h => by
  have := dc_at l i (by simpa using h)
  simp only [dc, List.getElem_cons_succ]
  rw [show (i + 1) * 2 = i * 2 + 1 + 1 by omega, show (i * 2 + 1 + 1) + 1 = (i * 2 + 1) + 1 + 1 by omega]
  simpa using this
def OwnD (w : World) (B : Nat) (v : Value) (l : List (Int × Int)) : Prop := w.ownsRow B 77 2 v l.length (dc l)
theorem OwnD.nil (w : World) (B : Nat) : OwnD w B (.slice none 0 0) [] := World.ownsRow_nil _ _ _ _
theorem OwnD.below {w W : World} {B : Nat} {v : Value} {l : List (Int × Int)} (h : OwnD w B v l) (hB : Below w.heap.size w W) : OwnD W B v l := ownsRow_below h hB
theorem OwnD.days {w : World} {B : Nat} {v : Value} {l : List (Int × Int)} (h : OwnD w B v l) : Days w v l := by
 by_cases h0 : l.length = 0
 ·obtain rfl : l = [] := List.length_eq_zero_iff.1 h0
  refine .inl ⟨rfl, ?_⟩
  rcases h.2 with ⟨rfl, _⟩ | ⟨g, cap, cur, rfl, _⟩
  ·exact ⟨none, 0, rfl, fun _ => rfl⟩
  ·exact ⟨_, cap, rfl, fun h => by cases h⟩
 ·obtain ⟨g, cap, rfl, hb, hg, hc, _, hcell⟩ := ownsRow_pos h (by omega)
  refine .inr ⟨by omega, g, 0, cap, rfl, hg, hc, fun i hi => ?_⟩
  have hd := dc_at l i hi
  have h1 := hcell _ _ hd.1
  have h2 := hcell _ _ hd.2
  rw [Nat.zero_add]
  exact ⟨h1, h2⟩
theorem OwnD.slice {w : World} {B : Nat} {v : Value} {l : List (Int × Int)} (h : OwnD w B v l) : ∃ a c, v = .slice a l.length c := by
 rcases h.2 with ⟨rfl, h0⟩ | ⟨g, cap, cur, rfl, _⟩
 ·exact ⟨none, 0, by rw [h0]⟩
 ·exact ⟨_, _, rfl⟩
def GivesD (w : World) (l : List (Int × Int)) (e : Ending) (w' : World) : Prop := ∃ v, e = .returned v ∧ OwnD w' w.heap.size v l ∧ Below w.heap.size w w'
theorem infoDay : (Tryz.prog.info? 77).map (fun i => (i.zero, i.size, i.bytes)) = some (some (.agg #[.int .i64 0, .int .i64 0]), 2, 16) := by kernel_rfl
theorem push_day {ops : Array Oper} {rest : List Oper} {o : Oper} {a : Act} {Q : Exit → Act → World → Prop} {W : World} {T' : TypeId} {p q : Int} (hgd : o.guard = none) (s x : Operand)
  (ho : o.op = .call { callee := .builtin .append, args := #[s, x], argTypes := #[31, 31] }) (B : Nat) (v : Value) (l : List (Int × Int)) (hs : a.eval s = v) (hown : OwnD W B v l)
  (hx : a.eval x = .slice (some ⟨W.heap.size, 0, none⟩) 1 1) (hn : l.length ≤ 1000000) (hB : B ≤ W.heap.size)
  (h : ∀ v' w', OwnD w' B v' (l ++ [(p, q)]) → Below B W w' → wpList Tryz.prog ops Q rest (a.put o.dst v') w') : wpList Tryz.prog ops Q (o :: rest) a (W.alloc (.cells #[.int .i64 p, .int .i64 q] T')) := by
 obtain ⟨i0, hi, hz0, hz1, hz2⟩ := info_parts infoDay
 refine wpList_append_own (W.alloc (.cells #[.int .i64 p, .int .i64 q] T')) hgd s x _ ho B 77 i0 _ 2 16 Tryz.underlying31 hi hz0 hz1 hz2 rfl (by decide) v l.length (dc l) hs (World.ownsRow.alloc hown _)
  ⟨W.heap.size, 0, none⟩ 1 1 [.int .i64 p, .int .i64 q] hx rfl ?_ (by simp [Value.oneCell']) (by unfold maxLen; omega) (by omega) (by simp; omega) fun v' w' h1 h2 _ => ?_
 ·intro j u hj
  match j, hj with
  | 0, hj => simp at hj; subst hj; simp [Addr.add]
  | 1, hj => simp at hj; subst hj; simp [Addr.add]
 refine h v' w' ?_ (((Below.refl B W).alloc hB _).grown h2 (by simp; omega) fun k hk => (hown.lt k hk).1)
 unfold OwnD
 rw [dc_append, List.length_append]
 exact h1
set_option maxHeartbeats 1000000 in
theorem ownDays_any {w : World} {v : Value} {l : List (Int × Int)} (hl : Days w v l) (hn : l.length ≤ 1000) : Calls Tryz.prog 35 #[v] w (GivesD w l) := by
 rcases hl with ⟨rfl, a', cap, rfl, ha⟩ | ⟨h0, blk, o, cap, rfl, hlt, hcap, hcell⟩
 ·go_enter Tryz.func35, Tryz.ntmps35
  go_wp2
  go_rounds 1
  go_wp2
  go_ret
  exact ⟨_, rfl, OwnD.nil _ _, by (repeat' (first|assumption|exact Below.refl _ _|apply Below.next_alloc|apply Below.drew|(apply Below.next;rotate_left;assumption)))⟩
 ·have HC := Lib.hid hcell
  clear hcell
  go_enter Tryz.func35, Tryz.ntmps35
  go_wp2
  go_loopw [3, 4] (fun u i wr => ∃ k : Nat, k ≤ l.length ∧ i = .int .i64 k ∧ OwnD wr w.heap.size u (l.take k) ∧ Hid (Below w.heap.size w wr)) (fun _ i _ => l.length - (intOf i).toNat)
  case atStart => exact ⟨0, by omega, rfl, OwnD.nil _ _, Lib.hid (Below.refl _ _)⟩
  case round =>
   obtain ⟨k, hk0, rfl, hown, hB⟩ := hrel
   replace hown := Lib.hid hown
   by_cases hk : k < l.length
   ·obtain ⟨c1, c2⟩ := days_cells hlt HC.out hB.out k hk
    have i2 : (k : Int) < (l.length : Int) := by omega
    have i3 : (0 : Int) ≤ (k : Int) := by omega
    have ht := List.take_succ_eq_append_getElem hk
    have hlen : (l.take k).length ≤ 1000000 := by rw [List.length_take]; omega
    obtain ⟨m, hm⟩ : ∃ m, l[k] = m := ⟨_, rfl⟩
    rw [hm] at c1 c2 ht
    clear hm
    obtain ⟨p, q⟩ := m
    simp only at c1 c2
    replace ht := Lib.hid ht
    replace hlen := Lib.hid hlen
    go_wp2_with (at_builtin; refine push_day rfl _ _ rfl w.heap.size _ (l.take k) rfl hown.out rfl hlen.out hB.out.size ?_; intro v5 w5 hown5 hB5)
    go_roundw
    case rel => exact ⟨k + 1, by omega, by go_num, by rw [ht.out]; exact hown5, Lib.hid (hB.out.trans hB5)⟩
    case measure => simp [intOf]; omega
   ·have ht := Lib.hid (show l.take k = l from List.take_of_length_le (by omega))
    go_wp2
    go_ret
    exact ⟨_, rfl, by rw [← ht.out]; exact hown.out, hB.out⟩
set_option maxHeartbeats 1000000 in
theorem ints_any {w : World} {v : Value} {l : List Int} (hl : Ints w v l) (hn : l.length ≤ 1000) : Calls Tryz.prog 34 #[v] w (Gives w l) := by
 obtain ⟨i0, hi, hz0, hz1, hz2⟩ := info_parts infoInt
 have ho := OwnI.nil w w.heap.size
 unfold OwnI at ho
 replace ho := Lib.hid ho
 rcases hl with ⟨rfl, a', cap, rfl, ha⟩ | ⟨h0, blk, o, cap, rfl, hlt, hcap, hcell⟩
 ·rcases a' with _ | ad
  ·obtain rfl := ha rfl
   clear ha
   go_enter Tryz.func34, Tryz.ntmps34
   go_wp2_with (at_builtin; refine wpList_append_own_none rfl _ _ _ rfl w.heap.size 3 i0 _ Tryz.underlying24 hi _ _ _ rfl ho.out rfl ?_)
   go_ret
   exact ⟨_, rfl, ho.out, Below.refl _ _⟩
  ·clear ha
   go_enter Tryz.func34, Tryz.ntmps34
   go_wp2_with (at_builtin; refine wpList_append_own _ rfl _ _ _ rfl w.heap.size 3 i0 _ 1 8 Tryz.underlying24 hi hz0 hz1 hz2 rfl (by decide) _ _ _ rfl ho.out ad 0 cap [] rfl rfl (fun j u h => by simp at h) (by simp) (by decide) (by decide) (Nat.le_refl _) ?_; intro v5 w5 hown5 hg5 _)
   go_ret
   exact ⟨_, rfl, hown5, (Below.refl _ w).grown hg5 (Nat.le_refl _) (fun k hk => by cases hk)⟩
 ·have HC := Lib.hid (show ∀ j u, (ic l)[j]? = some u → w.cell? ((⟨blk, o, none⟩ : Addr).add j) = some u from fun j u h => by
   unfold ic at h
   rw [List.getElem?_map] at h
   obtain ⟨z, hz, rfl⟩ := Option.map_eq_some_iff.1 h
   obtain ⟨hj, rfl⟩ := List.getElem?_eq_some_iff.1 hz
   have hadd : (⟨blk, o, none⟩ : Addr).add j = ⟨blk, o + j, none⟩ := by unfold Addr.add; split <;> simp_all
   rw [hadd]; exact hcell j hj)
  have h63 := Lib.hid (show 0 + l.length ≤ maxLen by unfold maxLen; omega)
  have hby := Lib.hid (show (0 + l.length) * 8 ≤ 140737488355328 by omega)
  have hone := Lib.hid (show ∀ u ∈ ic l, u.oneCell' = true from fun u hu => by unfold ic at hu; obtain ⟨z, _, rfl⟩ := List.mem_map.1 hu; rfl)
  have hicl := Lib.hid (show (ic l).length = l.length * 1 by rw [ic_length]; omega)
  clear hcell
  go_enter Tryz.func34, Tryz.ntmps34
  go_wp2_with (at_builtin; refine wpList_append_own _ rfl _ _ _ rfl w.heap.size 3 i0 _ 1 8 Tryz.underlying24 hi hz0 hz1 hz2 rfl (by decide) _ _ _ rfl ho.out ⟨blk, o, none⟩ l.length cap (ic l) rfl hicl.out HC.out hone.out h63.out hby.out (Nat.le_refl _) ?_; intro v5 w5 hown5 hg5 _)
  go_ret
  refine ⟨_, rfl, ?_, (Below.refl _ w).grown hg5 (Nat.le_refl _) (fun k hk => by cases hk)⟩
  have h := hown5
  rw [List.length_nil, Nat.zero_add] at h
  exact h
end Go.Proofs.YtkbohijlhhpfbaaGreatDoor.Ra
/- The walk through errandlaw21's Own (printed by gen_own.py). -/
namespace Go.Proofs.YtkbohijlhhpfbaaGreatDoor.Ra
open Go.RowKit Ru Ut Cw
theorem own_two (w : World) (A : Array Value) (B : Obj) (T : TypeId) (i : Nat) : ((w.alloc (.cells A T)).alloc B).cell? ⟨w.heap.size, i, none⟩ = A[i]? := by
 rw [World.cell?_alloc_lt _ _ _ (by simp)]
 exact World.cell?_alloc_new w A T i
def held (W : World) (a : Addr) : Value := (W.cell? a).getD (.bool false)
theorem held_mk {W : World} {a : Addr} {v : Value} (h : W.cell? a = some v) : W.cell? a = some (held W a) := by unfold held; rw [h]; rfl
theorem held_is {W : World} {a : Addr} (h : (W.cell? a).isSome = true) : W.cell? a = some (held W a) := by obtain ⟨v, hv⟩ := Option.isSome_iff_exists.1 h; exact held_mk hv
theorem set_some {W : World} {p a : Addr} {u : Value} (h : (W.cell? a).isSome = true) : ((W.setCell p u).cell? a).isSome = true := by
 obtain ⟨v, hv⟩ := Option.isSome_iff_exists.1 h
 obtain ⟨v', hv'⟩ := cell?_setCell_some (w := W) (p := p) (x := u) (q := a) (v := v) hv
 rw [hv']; rfl
theorem ownsRow_moved {W W' : World} {B E sz m : Nat} {v : Value} {n : Nat} {xs : List Value} (h : W.ownsRow B E sz v n xs) (hk : ∀ k, k ≠ m → W'.heap[k]? = W.heap[k]?) (hm : m < B) : W'.ownsRow B E sz v n xs := by
 refine ⟨h.1, h.2.imp id ?_⟩
 rintro ⟨g, cap, cur, h1, h2, h3, h4⟩
 exact ⟨g, cap, cur, h1, h2, (hk g (by omega)).trans h3, h4⟩
theorem OwnI.moved {W W' : World} {B m : Nat} {v : Value} {l : List Int} (h : OwnI W B v l) (hk : ∀ k, k ≠ m → W'.heap[k]? = W.heap[k]?) (hm : m < B) : OwnI W' B v l := ownsRow_moved h hk hm
theorem OwnD.moved {W W' : World} {B m : Nat} {v : Value} {l : List (Int × Int)} (h : OwnD W B v l) (hk : ∀ k, k ≠ m → W'.heap[k]? = W.heap[k]?) (hm : m < B) : OwnD W' B v l := ownsRow_moved h hk hm
def setAll (b : Nat) : World → Nat → List Value → World
 | W, _, [] => W
 | W, k, v :: vs => setAll b (W.setCell ⟨b, k, none⟩ v) (k + 1) vs
theorem setAll_heap (b : Nat) : ∀ (vs : List Value) (W : World) (k j : Nat), j ≠ b → (setAll b W k vs).heap[j]? = W.heap[j]?
 | [], _, _, _, _ => rfl
 | _ :: vs, _, _, j, h => (setAll_heap b vs _ _ j h).trans (Below.heap_setCell _ _ _ _ h)
theorem setAll_below (b : Nat) {B : Nat} {a : World} (hB : B ≤ b) : ∀ (vs : List Value) (W : World) (k : Nat), Below B a W → Below B a (setAll b W k vs)
 | [], _, _, h => h
 | v :: vs, _, _, h => setAll_below b hB vs _ _ (h.setCell hB v)
theorem setAll_low (b : Nat) : ∀ (vs : List Value) (W : World) (k j : Nat) (v : Value), j < k → W.cell? ⟨b, j, none⟩ = some v → (setAll b W k vs).cell? ⟨b, j, none⟩ = some v
 | [], _, _, _, _, _, h => h
 | u :: vs, W, k, j, v, hj, h => setAll_low b vs _ _ j v (by omega) ((World.cell?_setCell_other W ⟨b, k, none⟩ ⟨b, j, none⟩ u (fun e => by injection e; omega)).trans h)
theorem setAll_cell (b : Nat) : ∀ (vs : List Value) (W : World) (k i : Nat) (v : Value), (∀ j, k ≤ j → j < k + vs.length → (W.cell? ⟨b, j, none⟩).isSome = true) → vs[i]? = some v → (setAll b W k vs).cell? ⟨b, k + i, none⟩ = some v
 | [], _, _, _, _, _, h => by simp at h
 | u :: vs, W, k, 0, v, hs, h => by
  obtain rfl : u = v := by simpa using h
  obtain ⟨z, hz⟩ := Option.isSome_iff_exists.1 (hs k (Nat.le_refl _) (by simp))
  exact setAll_low b vs _ _ _ _ (by omega) (World.cell?_setCell_same W ⟨b, k, none⟩ u hz)
 | u :: vs, W, k, i + 1, v, hs, h => by
  have := setAll_cell b vs (W.setCell ⟨b, k, none⟩ u) (k + 1) i v (fun j h1 h2 => set_some (hs j (by omega) (by simp at h2 ⊢; omega))) (by simpa using h)
  rwa [show k + 1 + i = k + (i + 1) by omega] at this
def sv9 (v4 v5 v6 v7 v8 v9 v10 v11 v12 : Value) (q : Nat) : Value := if q = 4 then v4 else if q = 5 then v5 else if q = 6 then v6 else if q = 7 then v7 else if q = 8 then v8 else if q = 9 then v9 else if q = 10 then v10 else if q = 11 then v11 else v12
end Go.Proofs.YtkbohijlhhpfbaaGreatDoor.Ra
/- An argument that is a rule, by value: what it is in memory. -/
namespace Go.Proofs.YtkbohijlhhpfbaaGreatDoor.Ra
open Go.ChangeShapes Go.WideShapes Go.RowKit Go.Deep Ru
def i64At : Value → Int
 | .int _ z => z
 | _ => 0
theorem add_eq (b o j : Nat) : (⟨b, o, none⟩ : Addr).add j = ⟨b, o + j, none⟩ := by
 simp [Addr.add]
section
variable {H : Type} {enc : TypeId × Value → H} {P : Program} {w : World} {base : Nat} {spare : Nat → Bool} {held : Bool}
theorem open_ints {t e : TypeId} {n : Nat} {v : Value} {x : DataW H × List MemPlace} (ht : P.underlying t = some (.slice e)) (he : P.underlying e = some (.int .i64)) (ce : P.cellsOf e = 1)
  (h : DataW.trod enc P w base spare held n t [v] = some x) : ∃ l, Ints w v l ∧ (∀ x ∈ l, (Lit.int .i64 x).wf = true) ∧ l.length ≤ 9223372036854775807 := by
 rcases open_slice ht h with ⟨hc, _⟩ | ⟨a, len, cap, m, k, D, Pl, hc, _, hl, hm, hmm, _, hall⟩
 ·simp only [List.cons.injEq, and_true] at hc
  subst hc
  exact ⟨[], .inl ⟨rfl, _, _, rfl, fun _ => rfl⟩, by simp, by simp⟩
 ·simp only [List.cons.injEq, and_true] at hc
  subst hc
  have hlm : len ≤ m := by rw [hmm]; split <;> omega
  have hs : ∀ i, i < len → w.cell? (a.add i) = some (.int .i64 (i64At ((w.cell? (a.add i)).getD (.bool false)))) ∧ (Lit.int .i64 (i64At ((w.cell? (a.add i)).getD (.bool false)))).wf = true := fun i hi => by
   obtain ⟨cs', h1, h2⟩ := hall i (by omega)
   rw [ce] at h1
   rw [Nat.mul_one] at h1
   obtain ⟨_, hcl, hat⟩ := World.cells?_some h1
   have h0 := hat 0 (by omega)
   obtain ⟨z, h3, _, h4⟩ := DataW.trod_int he h2
   have hz : w.cell? (a.add i) = some (.int .i64 z) := by
    rw [h3] at h0
    simpa [Addr.add] using h0
   rw [hz]
   exact ⟨rfl, h4⟩
  by_cases h0 : 0 < len
  ·obtain ⟨b, o, spot⟩ := a
   have hspot : spot = none := by simpa [Addr.add] using World.cell?_spot (hs 0 h0).1
   subst hspot
   have hblk : b < w.heap.size := World.block_lt_of_cell? (a := (⟨b, o, none⟩ : Addr).add 0) _ (hs 0 h0).1
   refine ⟨(List.range len).map fun i => i64At ((w.cell? ((⟨b, o, none⟩ : Addr).add i)).getD (.bool false)), .inr ⟨by simpa using h0, b, o, cap, by simp, hblk, by simpa using hl, fun i hi => ?_⟩, fun x hx => ?_, ?_⟩
   ·have hi' : i < len := by simpa using hi
    simp only [List.getElem_map, List.getElem_range]
    have := (hs i hi').1
    rwa [add_eq] at this ⊢
   ·obtain ⟨i, hi, rfl⟩ := List.mem_map.1 hx
    exact (hs i (List.mem_range.1 hi)).2
   ·simp only [List.length_map, List.length_range]; have : maxLen = 9223372036854775807 := by decide
    omega
  ·obtain rfl : len = 0 := by omega
   exact ⟨[], .inl ⟨rfl, _, _, rfl, fun h => by cases h⟩, by simp, by simp⟩
theorem open_days {t e : TypeId} {f0 f1 : Field} {n : Nat} {v : Value} {x : DataW H × List MemPlace} (ht : P.underlying t = some (.slice e)) (he : P.underlying e = some (.struct #[f0, f1]))
  (ce : P.cellsOf e = 2) (o0 : f0.offset = 0) (o1 : f1.offset = 1) (c0 : P.cellsOf f0.type = 1) (c1 : P.cellsOf f1.type = 1) (u0 : P.underlying f0.type = some (.int .i64)) (u1 : P.underlying f1.type = some (.int .i64))
  (h : DataW.trod enc P w base spare held n t [v] = some x) : ∃ l, Days w v l ∧ l.length ≤ 9223372036854775807 := by
 rcases open_slice_pairs ht he ce o0 o1 c0 c1 h with ⟨hc, _⟩ | ⟨a, len, cap, m, k, V0, V1, D0, D1, P0, P1, hc, _, hl, hm, hmm, hx, hall⟩
 ·simp only [List.cons.injEq, and_true] at hc
  subst hc
  exact ⟨[], .inl ⟨rfl, _, _, rfl, fun _ => rfl⟩, by simp⟩
 ·simp only [List.cons.injEq, and_true] at hc
  subst hc
  have hlm : len ≤ m := by rw [hmm]; split <;> omega
  by_cases h0 : 0 < len
  ·obtain ⟨b, o, spot⟩ := a
   have hspot : spot = none := by simpa [Addr.add] using World.cell?_spot (hall 0 (by omega)).1
   subst hspot
   have hs : ∀ i, i < len → V0 i = .int .i64 (i64At (V0 i)) ∧ V1 i = .int .i64 (i64At (V1 i)) := fun i hi => by
    have hh := hall i (by omega)
    obtain ⟨s, h1, _, _⟩ := DataW.trod_int u0 hh.2.2.1
    obtain ⟨z, h2, _, _⟩ := DataW.trod_int u1 hh.2.2.2
    simp only [List.cons.injEq, and_true] at h1 h2
    rw [h1, h2]; exact ⟨rfl, rfl⟩
   have hblk : b < w.heap.size := World.block_lt_of_cell? (a := (⟨b, o, none⟩ : Addr).add (0 * 2)) _ (hall 0 (by omega)).1
   refine ⟨(List.range len).map fun i => (i64At (V0 i), i64At (V1 i)), .inr ⟨by simpa using h0, b, o, cap, by simp, hblk, by simpa using hl, fun i hi => ?_⟩, ?_⟩
   ·have hi' : i < len := by simpa using hi
    have hh := hall i (by omega)
    have g := hs i hi'
    simp only [List.getElem_map, List.getElem_range]
    rw [← g.1, ← g.2]
    have e1 := hh.1
    have e2 := hh.2.1
    rw [add_eq] at e1 e2
    exact ⟨e1, by rw [Nat.add_assoc]; exact e2⟩
   ·simp only [List.length_map, List.length_range]; have : maxLen = 9223372036854775807 := by decide
    omega
  ·obtain rfl : len = 0 := by omega
   exact ⟨[], .inl ⟨rfl, _, _, rfl, fun h => by cases h⟩, by simp⟩
theorem field_at {α : Type} {fs : Array Field} {g : Field → α} {l : List α} (h : fs.toList.map g = l) (j : Nat) (a : α) (ha : l[j]? = some a) : ∃ f, fs[j]? = some f ∧ g f = a := by
 rw [← h, List.getElem?_map, Option.map_eq_some_iff] at ha
 obtain ⟨f, hf, hg⟩ := ha
 exact ⟨f, by simpa using hf, hg⟩
end
end Go.Proofs.YtkbohijlhhpfbaaGreatDoor.Ra

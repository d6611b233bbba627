import Derived.Test.YtkbohijlhhpfbaaGreatDoorRm
import Derived.Test.YtkbohijlhhpfbaaGreatDoorRj
import Derived.Laws.AppendOwnNone
import Derived.Deep.AppendLies
import Derived.Test.YtkbohijlhhpfbaaGreatDoorRi
import Derived.Deep.RegionHeld3
import Derived.Deep.SlicePairs
import Derived.OpenShut
import Derived.WideShapes
import Derived.ChangeMaps5
/- The walks through errandlaw21's Small and ints, and errandlaw20's Own. -/
namespace Go.Proofs.YtkbohijlhhpfbaaGreatDoor.Ra
open Go.RowKit Ru Ut Cw
def smallR (r : R) : Bool := decide (r.sec.length ≤ 20 ∧ r.min.length ≤ 20 ∧ r.hour.length ≤ 20 ∧ r.day.length ≤ 20 ∧ r.mday.length ≤ 20 ∧ r.yday.length ≤ 20 ∧ r.weekno.length ≤ 20 ∧ r.month.length ≤ 20 ∧ r.setpos.length ≤ 20)
theorem smallR_iff {r : R} : smallR r = true ↔ (r.sec.length ≤ 20 ∧ r.min.length ≤ 20 ∧ r.hour.length ≤ 20 ∧ r.day.length ≤ 20 ∧ r.mday.length ≤ 20 ∧ r.yday.length ≤ 20 ∧ r.weekno.length ≤ 20 ∧ r.month.length ≤ 20 ∧ r.setpos.length ≤ 20) := decide_eq_true_iff
theorem smallR_no {r : R} (h : ¬ (r.sec.length ≤ 20 ∧ r.min.length ≤ 20 ∧ r.hour.length ≤ 20 ∧ r.day.length ≤ 20 ∧ r.mday.length ≤ 20 ∧ r.yday.length ≤ 20 ∧ r.weekno.length ≤ 20 ∧ r.month.length ≤ 20 ∧ r.setpos.length ≤ 20)) : smallR r = false := decide_eq_false h
theorem short_small {r : R} (h : smallR r = true) : Short r := by
  have h := smallR_iff.1 h
  refine ⟨fun q h4 h12 h7 => ?_, by omega⟩
  have hc : q = 4 ∨ q = 5 ∨ q = 6 ∨ q = 8 ∨ q = 9 ∨ q = 10 ∨ q = 11 ∨ q = 12 := by omega
  rcases hc with rfl | rfl | rfl | rfl | rfl | rfl | rfl | rfl <;> simp [lst] <;> omega
set_option maxHeartbeats 4000000 in
set_option maxRecDepth 100000 in
theorem small_any (w : World) (r : R) (sv : Nat → Value) (hL : Lists w r sv) (hn : ∀ q, 4 ≤ q → q ≤ 12 → q ≠ 7 → (lst r q).length ≤ 9223372036854775807) (hn7 : r.day.length ≤ 9223372036854775807) : Calls Tryz.prog 9 #[.agg (ruleC r sv)] w fun e w' => e = .returned (.bool (smallR r)) ∧ Below w.heap.size w w' := by
  obtain ⟨a4, k4, e4⟩ := (hL.1 4 (by decide) (by decide) (by decide)).slice
  change sv 4 = .slice a4 r.sec.length k4 at e4
  have n4 : r.sec.length ≤ 9223372036854775807 := hn 4 (by decide) (by decide) (by decide)
  obtain ⟨a5, k5, e5⟩ := (hL.1 5 (by decide) (by decide) (by decide)).slice
  change sv 5 = .slice a5 r.min.length k5 at e5
  have n5 : r.min.length ≤ 9223372036854775807 := hn 5 (by decide) (by decide) (by decide)
  obtain ⟨a6, k6, e6⟩ := (hL.1 6 (by decide) (by decide) (by decide)).slice
  change sv 6 = .slice a6 r.hour.length k6 at e6
  have n6 : r.hour.length ≤ 9223372036854775807 := hn 6 (by decide) (by decide) (by decide)
  obtain ⟨a8, k8, e8⟩ := (hL.1 8 (by decide) (by decide) (by decide)).slice
  change sv 8 = .slice a8 r.mday.length k8 at e8
  have n8 : r.mday.length ≤ 9223372036854775807 := hn 8 (by decide) (by decide) (by decide)
  obtain ⟨a9, k9, e9⟩ := (hL.1 9 (by decide) (by decide) (by decide)).slice
  change sv 9 = .slice a9 r.yday.length k9 at e9
  have n9 : r.yday.length ≤ 9223372036854775807 := hn 9 (by decide) (by decide) (by decide)
  obtain ⟨a10, k10, e10⟩ := (hL.1 10 (by decide) (by decide) (by decide)).slice
  change sv 10 = .slice a10 r.weekno.length k10 at e10
  have n10 : r.weekno.length ≤ 9223372036854775807 := hn 10 (by decide) (by decide) (by decide)
  obtain ⟨a11, k11, e11⟩ := (hL.1 11 (by decide) (by decide) (by decide)).slice
  change sv 11 = .slice a11 r.month.length k11 at e11
  have n11 : r.month.length ≤ 9223372036854775807 := hn 11 (by decide) (by decide) (by decide)
  obtain ⟨a12, k12, e12⟩ := (hL.1 12 (by decide) (by decide) (by decide)).slice
  change sv 12 = .slice a12 r.setpos.length k12 at e12
  have n12 : r.setpos.length ≤ 9223372036854775807 := hn 12 (by decide) (by decide) (by decide)
  obtain ⟨a7, k7, e7⟩ := hL.2.slice
  unfold ruleC
  rw [e4, e5, e6, e7, e8, e9, e10, e11, e12]
  clear e4 e5 e6 e7 e8 e9 e10 e11 e12 hL hn
  by_cases c4 : r.sec.length ≤ 20
  rotate_left
  · have hr := Lib.hid (smallR_no (r := r) (by omega))
    go_enter Tryz.func9, Tryz.ntmps9
    go_wp2
    go_ret
    exact ⟨ret_b hr.out.symm, by (repeat' (first | assumption | exact Below.refl _ _ | apply Below.next_alloc | apply Below.drew | (apply Below.next; rotate_left; assumption)))⟩
  by_cases c5 : r.min.length ≤ 20
  rotate_left
  · have hr := Lib.hid (smallR_no (r := r) (by omega))
    go_enter Tryz.func9, Tryz.ntmps9
    go_wp2
    go_ret
    exact ⟨ret_b hr.out.symm, by (repeat' (first | assumption | exact Below.refl _ _ | apply Below.next_alloc | apply Below.drew | (apply Below.next; rotate_left; assumption)))⟩
  by_cases c6 : r.hour.length ≤ 20
  rotate_left
  · have hr := Lib.hid (smallR_no (r := r) (by omega))
    go_enter Tryz.func9, Tryz.ntmps9
    go_wp2
    go_ret
    exact ⟨ret_b hr.out.symm, by (repeat' (first | assumption | exact Below.refl _ _ | apply Below.next_alloc | apply Below.drew | (apply Below.next; rotate_left; assumption)))⟩
  by_cases c7 : r.day.length ≤ 20
  rotate_left
  · have hr := Lib.hid (smallR_no (r := r) (by omega))
    go_enter Tryz.func9, Tryz.ntmps9
    go_wp2
    go_ret
    exact ⟨ret_b hr.out.symm, by (repeat' (first | assumption | exact Below.refl _ _ | apply Below.next_alloc | apply Below.drew | (apply Below.next; rotate_left; assumption)))⟩
  by_cases c8 : r.mday.length ≤ 20
  rotate_left
  · have hr := Lib.hid (smallR_no (r := r) (by omega))
    go_enter Tryz.func9, Tryz.ntmps9
    go_wp2
    go_ret
    exact ⟨ret_b hr.out.symm, by (repeat' (first | assumption | exact Below.refl _ _ | apply Below.next_alloc | apply Below.drew | (apply Below.next; rotate_left; assumption)))⟩
  by_cases c9 : r.yday.length ≤ 20
  rotate_left
  · have hr := Lib.hid (smallR_no (r := r) (by omega))
    go_enter Tryz.func9, Tryz.ntmps9
    go_wp2
    go_ret
    exact ⟨ret_b hr.out.symm, by (repeat' (first | assumption | exact Below.refl _ _ | apply Below.next_alloc | apply Below.drew | (apply Below.next; rotate_left; assumption)))⟩
  by_cases c10 : r.weekno.length ≤ 20
  rotate_left
  · have hr := Lib.hid (smallR_no (r := r) (by omega))
    go_enter Tryz.func9, Tryz.ntmps9
    go_wp2
    go_ret
    exact ⟨ret_b hr.out.symm, by (repeat' (first | assumption | exact Below.refl _ _ | apply Below.next_alloc | apply Below.drew | (apply Below.next; rotate_left; assumption)))⟩
  by_cases c11 : r.month.length ≤ 20
  rotate_left
  · have hr := Lib.hid (smallR_no (r := r) (by omega))
    go_enter Tryz.func9, Tryz.ntmps9
    go_wp2
    go_ret
    exact ⟨ret_b hr.out.symm, by (repeat' (first | assumption | exact Below.refl _ _ | apply Below.next_alloc | apply Below.drew | (apply Below.next; rotate_left; assumption)))⟩
  by_cases c12 : r.setpos.length ≤ 20
  rotate_left
  · have hr := Lib.hid (smallR_no (r := r) (by omega))
    go_enter Tryz.func9, Tryz.ntmps9
    go_wp2
    go_ret
    exact ⟨ret_b ((decide_eq_false (by omega)).trans hr.out.symm), by (repeat' (first | assumption | exact Below.refl _ _ | apply Below.next_alloc | apply Below.drew | (apply Below.next; rotate_left; assumption)))⟩
  have hr := Lib.hid (smallR_iff.2 ⟨c4, c5, c6, c7, c8, c9, c10, c11, c12⟩)
  go_enter Tryz.func9, Tryz.ntmps9
  go_wp2
  go_ret
  exact ⟨ret_b ((decide_eq_true (by omega)).trans hr.out.symm), by (repeat' (first | assumption | exact Below.refl _ _ | apply Below.next_alloc | apply Below.drew | (apply Below.next; rotate_left; assumption)))⟩
def dc : List (Int × Int) → List Value
  | [] => []
  | d :: l => .int .i64 d.1 :: .int .i64 d.2 :: dc l
theorem dc_length : ∀ l, (dc l).length = l.length * 2
  | [] => rfl
  | d :: l => by simp only [dc, List.length_cons, dc_length l]; omega
theorem dc_append : ∀ l m, dc (l ++ m) = dc l ++ dc m
  | [], _ => rfl
  | d :: l, m => by simp only [List.cons_append, dc, dc_append l m]
theorem dc_at : ∀ (l : List (Int × Int)) (i : Nat) (h : i < l.length), (dc l)[i * 2]? = some (.int .i64 l[i].1) ∧ (dc l)[i * 2 + 1]? = some (.int .i64 l[i].2)
  | d :: l, 0, _ => by simp [dc]
  | d :: l, i + 1, h => by
    have := dc_at l i (by simpa using h)
    simp only [dc, List.getElem_cons_succ]
    rw [show (i + 1) * 2 = i * 2 + 1 + 1 by omega, show (i * 2 + 1 + 1) + 1 = (i * 2 + 1) + 1 + 1 by omega]
    simpa using this
/-- the call's own row of weekdays from block B on -/
def OwnD (w : World) (B : Nat) (v : Value) (l : List (Int × Int)) : Prop := w.ownsRow B 77 2 v l.length (dc l)
theorem OwnD.nil (w : World) (B : Nat) : OwnD w B (.slice none 0 0) [] := World.ownsRow_nil _ _ _ _
theorem OwnD.below {w W : World} {B : Nat} {v : Value} {l : List (Int × Int)} (h : OwnD w B v l) (hB : Below w.heap.size w W) : OwnD W B v l := ownsRow_below h hB
theorem OwnD.days {w : World} {B : Nat} {v : Value} {l : List (Int × Int)} (h : OwnD w B v l) : Days w v l := by
  by_cases h0 : l.length = 0
  · obtain rfl : l = [] := List.length_eq_zero_iff.1 h0
    refine .inl ⟨rfl, ?_⟩
    rcases h.2 with ⟨rfl, _⟩ | ⟨g, cap, cur, rfl, _⟩
    · exact ⟨none, 0, rfl, fun _ => rfl⟩
    · exact ⟨_, cap, rfl, fun h => by cases h⟩
  · obtain ⟨g, cap, rfl, hb, hg, hc, _, hcell⟩ := ownsRow_pos h (by omega)
    refine .inr ⟨by omega, g, 0, cap, rfl, hg, hc, fun i hi => ?_⟩
    have hd := dc_at l i hi
    have h1 := hcell _ _ hd.1
    have h2 := hcell _ _ hd.2
    rw [Nat.zero_add]
    exact ⟨h1, h2⟩
theorem OwnD.slice {w : World} {B : Nat} {v : Value} {l : List (Int × Int)} (h : OwnD w B v l) : ∃ a c, v = .slice a l.length c := by
  rcases h.2 with ⟨rfl, h0⟩ | ⟨g, cap, cur, rfl, _⟩
  · exact ⟨none, 0, by rw [h0]⟩
  · exact ⟨_, _, rfl⟩
def GivesD (w : World) (l : List (Int × Int)) (e : Ending) (w' : World) : Prop := ∃ v, e = .returned v ∧ OwnD w' w.heap.size v l ∧ Below w.heap.size w w'
theorem infoDay : (Tryz.prog.info? 77).map (fun i => (i.zero, i.size, i.bytes)) = some (some (.agg #[.int .i64 0, .int .i64 0]), 2, 16) := by kernel_rfl
theorem push_day {ops : Array Oper} {rest : List Oper} {o : Oper} {a : Act} {Q : Exit → Act → World → Prop} {W : World} {T' : TypeId} {p q : Int} (hgd : o.guard = none) (s x : Operand)
    (ho : o.op = .call { callee := .builtin .append, args := #[s, x], argTypes := #[31, 31] }) (B : Nat) (v : Value) (l : List (Int × Int)) (hs : a.eval s = v) (hown : OwnD W B v l)
    (hx : a.eval x = .slice (some ⟨W.heap.size, 0, none⟩) 1 1) (hn : l.length ≤ 1000000) (hB : B ≤ W.heap.size)
    (h : ∀ v' w', OwnD w' B v' (l ++ [(p, q)]) → Below B W w' → wpList Tryz.prog ops Q rest (a.put o.dst v') w') : wpList Tryz.prog ops Q (o :: rest) a (W.alloc (.cells #[.int .i64 p, .int .i64 q] T')) := by
  obtain ⟨i0, hi, hz0, hz1, hz2⟩ := info_parts infoDay
  refine wpList_append_own (W.alloc (.cells #[.int .i64 p, .int .i64 q] T')) hgd s x _ ho B 77 i0 _ 2 16 Tryz.underlying31 hi hz0 hz1 hz2 rfl (by decide) v l.length (dc l) hs (World.ownsRow.alloc hown _)
    ⟨W.heap.size, 0, none⟩ 1 1 [.int .i64 p, .int .i64 q] hx rfl ?_ (by simp [Value.oneCell']) (by unfold maxLen; omega) (by omega) (by simp; omega) fun v' w' h1 h2 _ => ?_
  · intro j u hj
    match j, hj with
    | 0, hj => simp at hj; subst hj; simp [Addr.add]
    | 1, hj => simp at hj; subst hj; simp [Addr.add]
  refine h v' w' ?_ (((Below.refl B W).alloc hB _).grown h2 (by simp; omega) fun k hk => (hown.lt k hk).1)
  unfold OwnD
  rw [dc_append, List.length_append]
  exact h1
set_option maxHeartbeats 1000000 in
theorem ownDays_any {w : World} {v : Value} {l : List (Int × Int)} (hl : Days w v l) (hn : l.length ≤ 1000) : Calls Tryz.prog 35 #[v] w (GivesD w l) := by
  rcases hl with ⟨rfl, a', cap, rfl, ha⟩ | ⟨h0, blk, o, cap, rfl, hlt, hcap, hcell⟩
  · go_enter Tryz.func35, Tryz.ntmps35
    go_wp2
    go_rounds 1
    go_wp2
    go_ret
    exact ⟨_, rfl, OwnD.nil _ _, by (repeat' (first | assumption | exact Below.refl _ _ | apply Below.next_alloc | apply Below.drew | (apply Below.next; rotate_left; assumption)))⟩
  · have HC := Lib.hid hcell
    clear hcell
    go_enter Tryz.func35, Tryz.ntmps35
    go_wp2
    go_loopw [3, 4] (fun u i wr => ∃ k : Nat, k ≤ l.length ∧ i = .int .i64 k ∧ OwnD wr w.heap.size u (l.take k) ∧ Hid (Below w.heap.size w wr)) (fun _ i _ => l.length - (intOf i).toNat)
    case atStart => exact ⟨0, by omega, rfl, OwnD.nil _ _, Lib.hid (Below.refl _ _)⟩
    case round =>
      obtain ⟨k, hk0, rfl, hown, hB⟩ := hrel
      replace hown := Lib.hid hown
      by_cases hk : k < l.length
      · obtain ⟨c1, c2⟩ := days_cells hlt HC.out hB.out k hk
        have i2 : (k : Int) < (l.length : Int) := by omega
        have i3 : (0 : Int) ≤ (k : Int) := by omega
        have ht := List.take_succ_eq_append_getElem hk
        have hlen : (l.take k).length ≤ 1000000 := by rw [List.length_take]; omega
        obtain ⟨m, hm⟩ : ∃ m, l[k] = m := ⟨_, rfl⟩
        rw [hm] at c1 c2 ht
        clear hm
        obtain ⟨p, q⟩ := m
        simp only at c1 c2
        replace ht := Lib.hid ht
        replace hlen := Lib.hid hlen
        go_wp2_with (at_builtin; refine push_day rfl _ _ rfl w.heap.size _ (l.take k) rfl hown.out rfl hlen.out hB.out.size ?_; intro v5 w5 hown5 hB5)
        go_roundw
        case rel => exact ⟨k + 1, by omega, by go_num, by rw [ht.out]; exact hown5, Lib.hid (hB.out.trans hB5)⟩
        case measure => simp [intOf]; omega
      · have ht := Lib.hid (show l.take k = l from List.take_of_length_le (by omega))
        go_wp2
        go_ret
        exact ⟨_, rfl, by rw [← ht.out]; exact hown.out, hB.out⟩
set_option maxHeartbeats 1000000 in
theorem ints_any {w : World} {v : Value} {l : List Int} (hl : Ints w v l) (hn : l.length ≤ 1000) : Calls Tryz.prog 34 #[v] w (Gives w l) := by
  obtain ⟨i0, hi, hz0, hz1, hz2⟩ := info_parts infoInt
  have ho := OwnI.nil w w.heap.size
  unfold OwnI at ho
  replace ho := Lib.hid ho
  rcases hl with ⟨rfl, a', cap, rfl, ha⟩ | ⟨h0, blk, o, cap, rfl, hlt, hcap, hcell⟩
  · rcases a' with _ | ad
    · obtain rfl := ha rfl
      clear ha
      go_enter Tryz.func34, Tryz.ntmps34
      go_wp2_with (at_builtin; refine wpList_append_own_none rfl _ _ _ rfl w.heap.size 3 i0 _ Tryz.underlying24 hi _ _ _ rfl ho.out rfl ?_)
      go_ret
      exact ⟨_, rfl, ho.out, Below.refl _ _⟩
    · clear ha
      go_enter Tryz.func34, Tryz.ntmps34
      go_wp2_with (at_builtin; refine wpList_append_own _ rfl _ _ _ rfl w.heap.size 3 i0 _ 1 8 Tryz.underlying24 hi hz0 hz1 hz2 rfl (by decide) _ _ _ rfl ho.out ad 0 cap [] rfl rfl (fun j u h => by simp at h) (by simp) (by decide) (by decide) (Nat.le_refl _) ?_; intro v5 w5 hown5 hg5 _)
      go_ret
      exact ⟨_, rfl, hown5, (Below.refl _ w).grown hg5 (Nat.le_refl _) (fun k hk => by cases hk)⟩
  · have HC := Lib.hid (show ∀ j u, (ic l)[j]? = some u → w.cell? ((⟨blk, o, none⟩ : Addr).add j) = some u from fun j u h => by
      unfold ic at h
      rw [List.getElem?_map] at h
      obtain ⟨z, hz, rfl⟩ := Option.map_eq_some_iff.1 h
      obtain ⟨hj, rfl⟩ := List.getElem?_eq_some_iff.1 hz
      have hadd : (⟨blk, o, none⟩ : Addr).add j = ⟨blk, o + j, none⟩ := by unfold Addr.add; split <;> simp_all
      rw [hadd]; exact hcell j hj)
    have h63 := Lib.hid (show 0 + l.length ≤ maxLen by unfold maxLen; omega)
    have hby := Lib.hid (show (0 + l.length) * 8 ≤ 140737488355328 by omega)
    have hone := Lib.hid (show ∀ u ∈ ic l, u.oneCell' = true from fun u hu => by unfold ic at hu; obtain ⟨z, _, rfl⟩ := List.mem_map.1 hu; rfl)
    have hicl := Lib.hid (show (ic l).length = l.length * 1 by rw [ic_length]; omega)
    clear hcell
    go_enter Tryz.func34, Tryz.ntmps34
    go_wp2_with (at_builtin; refine wpList_append_own _ rfl _ _ _ rfl w.heap.size 3 i0 _ 1 8 Tryz.underlying24 hi hz0 hz1 hz2 rfl (by decide) _ _ _ rfl ho.out ⟨blk, o, none⟩ l.length cap (ic l) rfl hicl.out HC.out hone.out h63.out hby.out (Nat.le_refl _) ?_; intro v5 w5 hown5 hg5 _)
    go_ret
    refine ⟨_, rfl, ?_, (Below.refl _ w).grown hg5 (Nat.le_refl _) (fun k hk => by cases hk)⟩
    have h := hown5
    rw [List.length_nil, Nat.zero_add] at h
    exact h
end Go.Proofs.YtkbohijlhhpfbaaGreatDoor.Ra

/- The walk through errandlaw21's Own (printed by gen_own.py). -/
namespace Go.Proofs.YtkbohijlhhpfbaaGreatDoor.Ra
open Go.RowKit Ru Ut Cw
/-- what Own gives: a rule by value, whose lists lie in the world behind the call -/
def GivesR (w : World) (r : R) (e : Ending) (w' : World) : Prop := ∃ sv, e = .returned (ruleV r sv) ∧ Lists w' r sv ∧ Below w.heap.size w w'
theorem own_two (w : World) (A : Array Value) (B : Obj) (T : TypeId) (i : Nat) : ((w.alloc (.cells A T)).alloc B).cell? ⟨w.heap.size, i, none⟩ = A[i]? := by
  rw [World.cell?_alloc_lt _ _ _ (by simp)]
  exact World.cell?_alloc_new w A T i
/-- what a cell holds -/
def held (W : World) (a : Addr) : Value := (W.cell? a).getD (.bool false)
theorem held_mk {W : World} {a : Addr} {v : Value} (h : W.cell? a = some v) : W.cell? a = some (held W a) := by unfold held; rw [h]; rfl
theorem held_is {W : World} {a : Addr} (h : (W.cell? a).isSome = true) : W.cell? a = some (held W a) := by obtain ⟨v, hv⟩ := Option.isSome_iff_exists.1 h; exact held_mk hv
theorem set_some {W : World} {p a : Addr} {u : Value} (h : (W.cell? a).isSome = true) : ((W.setCell p u).cell? a).isSome = true := by
  obtain ⟨v, hv⟩ := Option.isSome_iff_exists.1 h
  obtain ⟨v', hv'⟩ := cell?_setCell_some (w := W) (p := p) (x := u) (q := a) (v := v) hv
  rw [hv']; rfl
theorem ownsRow_moved {W W' : World} {B E sz m : Nat} {v : Value} {n : Nat} {xs : List Value} (h : W.ownsRow B E sz v n xs) (hk : ∀ k, k ≠ m → W'.heap[k]? = W.heap[k]?) (hm : m < B) : W'.ownsRow B E sz v n xs := by
  refine ⟨h.1, h.2.imp id ?_⟩
  rintro ⟨g, cap, cur, h1, h2, h3, h4⟩
  exact ⟨g, cap, cur, h1, h2, (hk g (by omega)).trans h3, h4⟩
theorem OwnI.moved {W W' : World} {B m : Nat} {v : Value} {l : List Int} (h : OwnI W B v l) (hk : ∀ k, k ≠ m → W'.heap[k]? = W.heap[k]?) (hm : m < B) : OwnI W' B v l := ownsRow_moved h hk hm
theorem OwnD.moved {W W' : World} {B m : Nat} {v : Value} {l : List (Int × Int)} (h : OwnD W B v l) (hk : ∀ k, k ≠ m → W'.heap[k]? = W.heap[k]?) (hm : m < B) : OwnD W' B v l := ownsRow_moved h hk hm
def setAll (b : Nat) : World → Nat → List Value → World
  | W, _, [] => W
  | W, k, v :: vs => setAll b (W.setCell ⟨b, k, none⟩ v) (k + 1) vs
theorem setAll_heap (b : Nat) : ∀ (vs : List Value) (W : World) (k j : Nat), j ≠ b → (setAll b W k vs).heap[j]? = W.heap[j]?
  | [], _, _, _, _ => rfl
  | _ :: vs, _, _, j, h => (setAll_heap b vs _ _ j h).trans (Below.heap_setCell _ _ _ _ h)
theorem setAll_below (b : Nat) {B : Nat} {a : World} (hB : B ≤ b) : ∀ (vs : List Value) (W : World) (k : Nat), Below B a W → Below B a (setAll b W k vs)
  | [], _, _, h => h
  | v :: vs, _, _, h => setAll_below b hB vs _ _ (h.setCell hB v)
theorem setAll_low (b : Nat) : ∀ (vs : List Value) (W : World) (k j : Nat) (v : Value), j < k → W.cell? ⟨b, j, none⟩ = some v → (setAll b W k vs).cell? ⟨b, j, none⟩ = some v
  | [], _, _, _, _, _, h => h
  | u :: vs, W, k, j, v, hj, h => setAll_low b vs _ _ j v (by omega) ((World.cell?_setCell_other W ⟨b, k, none⟩ ⟨b, j, none⟩ u (fun e => by injection e; omega)).trans h)
theorem setAll_cell (b : Nat) : ∀ (vs : List Value) (W : World) (k i : Nat) (v : Value), (∀ j, k ≤ j → j < k + vs.length → (W.cell? ⟨b, j, none⟩).isSome = true) → vs[i]? = some v → (setAll b W k vs).cell? ⟨b, k + i, none⟩ = some v
  | [], _, _, _, _, _, h => by simp at h
  | u :: vs, W, k, 0, v, hs, h => by
    obtain rfl : u = v := by simpa using h
    obtain ⟨z, hz⟩ := Option.isSome_iff_exists.1 (hs k (Nat.le_refl _) (by simp))
    exact setAll_low b vs _ _ _ _ (by omega) (World.cell?_setCell_same W ⟨b, k, none⟩ u hz)
  | u :: vs, W, k, i + 1, v, hs, h => by
    have := setAll_cell b vs (W.setCell ⟨b, k, none⟩ u) (k + 1) i v (fun j h1 h2 => set_some (hs j (by omega) (by simp at h2 ⊢; omega))) (by simpa using h)
    rwa [show k + 1 + i = k + (i + 1) by omega] at this
def sv9 (v4 v5 v6 v7 v8 v9 v10 v11 v12 : Value) (q : Nat) : Value := if q = 4 then v4 else if q = 5 then v5 else if q = 6 then v6 else if q = 7 then v7 else if q = 8 then v8 else if q = 9 then v9 else if q = 10 then v10 else if q = 11 then v11 else v12
set_option maxHeartbeats 16000000 in
set_option maxRecDepth 100000 in
theorem own_any (w : World) (r : R) (sv : Nat → Value) (hL : Lists w r sv) (hn : Short r) : Calls Tryz.prog 11 #[.agg (ruleC r sv)] w (GivesR w r) := by
  have F4 : ∀ W, Below w.heap.size w W → Calls Tryz.prog 34 #[sv 4] W (Gives W r.sec) := fun W hB => ints_any (hL.1 4 (by decide) (by decide) (by decide) |>.below hB) (hn.1 4 (by decide) (by decide) (by decide))
  have F5 : ∀ W, Below w.heap.size w W → Calls Tryz.prog 34 #[sv 5] W (Gives W r.min) := fun W hB => ints_any (hL.1 5 (by decide) (by decide) (by decide) |>.below hB) (hn.1 5 (by decide) (by decide) (by decide))
  have F6 : ∀ W, Below w.heap.size w W → Calls Tryz.prog 34 #[sv 6] W (Gives W r.hour) := fun W hB => ints_any (hL.1 6 (by decide) (by decide) (by decide) |>.below hB) (hn.1 6 (by decide) (by decide) (by decide))
  have F7 : ∀ W, Below w.heap.size w W → Calls Tryz.prog 35 #[sv 7] W (GivesD W r.day) := fun W hB => ownDays_any (hL.2.below hB) hn.2
  have F8 : ∀ W, Below w.heap.size w W → Calls Tryz.prog 34 #[sv 8] W (Gives W r.mday) := fun W hB => ints_any (hL.1 8 (by decide) (by decide) (by decide) |>.below hB) (hn.1 8 (by decide) (by decide) (by decide))
  have F9 : ∀ W, Below w.heap.size w W → Calls Tryz.prog 34 #[sv 9] W (Gives W r.yday) := fun W hB => ints_any (hL.1 9 (by decide) (by decide) (by decide) |>.below hB) (hn.1 9 (by decide) (by decide) (by decide))
  have F10 : ∀ W, Below w.heap.size w W → Calls Tryz.prog 34 #[sv 10] W (Gives W r.weekno) := fun W hB => ints_any (hL.1 10 (by decide) (by decide) (by decide) |>.below hB) (hn.1 10 (by decide) (by decide) (by decide))
  have F11 : ∀ W, Below w.heap.size w W → Calls Tryz.prog 34 #[sv 11] W (Gives W r.month) := fun W hB => ints_any (hL.1 11 (by decide) (by decide) (by decide) |>.below hB) (hn.1 11 (by decide) (by decide) (by decide))
  have F12 : ∀ W, Below w.heap.size w W → Calls Tryz.prog 34 #[sv 12] W (Gives W r.setpos) := fun W hB => ints_any (hL.1 12 (by decide) (by decide) (by decide) |>.below hB) (hn.1 12 (by decide) (by decide) (by decide))
  replace F4 := Lib.hid F4
  replace F5 := Lib.hid F5
  replace F6 := Lib.hid F6
  replace F7 := Lib.hid F7
  replace F8 := Lib.hid F8
  replace F9 := Lib.hid F9
  replace F10 := Lib.hid F10
  replace F11 := Lib.hid F11
  replace F12 := Lib.hid F12
  clear hL hn
  unfold ruleC
  go_enter Tryz.func11, Tryz.ntmps11
  go_wp2
  have K0 : ((w.alloc (.cells #[.int .u8 r.freq, .int .i64 r.interval, .int .i64 r.count, .int .u8 r.uk, .int .i64 r.us, sv 4, sv 5, sv 6, sv 7, sv 8, sv 9, sv 10, sv 11, sv 12, .int .i64 r.wkst] 27)).alloc (.cells #[.int .u8 0, .int .i64 0, .int .i64 0, .int .u8 0, .int .i64 0, .slice none 0 0, .slice none 0 0, .slice none 0 0, .slice none 0 0, .slice none 0 0, .slice none 0 0, .slice none 0 0, .slice none 0 0, .slice none 0 0, .int .i64 0] 33)).cell? ⟨w.heap.size, 0, none⟩ = some (.int .u8 r.freq) ∧ ((w.alloc (.cells #[.int .u8 r.freq, .int .i64 r.interval, .int .i64 r.count, .int .u8 r.uk, .int .i64 r.us, sv 4, sv 5, sv 6, sv 7, sv 8, sv 9, sv 10, sv 11, sv 12, .int .i64 r.wkst] 27)).alloc (.cells #[.int .u8 0, .int .i64 0, .int .i64 0, .int .u8 0, .int .i64 0, .slice none 0 0, .slice none 0 0, .slice none 0 0, .slice none 0 0, .slice none 0 0, .slice none 0 0, .slice none 0 0, .slice none 0 0, .slice none 0 0, .int .i64 0] 33)).cell? ⟨w.heap.size, 1, none⟩ = some (.int .i64 r.interval) ∧ ((w.alloc (.cells #[.int .u8 r.freq, .int .i64 r.interval, .int .i64 r.count, .int .u8 r.uk, .int .i64 r.us, sv 4, sv 5, sv 6, sv 7, sv 8, sv 9, sv 10, sv 11, sv 12, .int .i64 r.wkst] 27)).alloc (.cells #[.int .u8 0, .int .i64 0, .int .i64 0, .int .u8 0, .int .i64 0, .slice none 0 0, .slice none 0 0, .slice none 0 0, .slice none 0 0, .slice none 0 0, .slice none 0 0, .slice none 0 0, .slice none 0 0, .slice none 0 0, .int .i64 0] 33)).cell? ⟨w.heap.size, 2, none⟩ = some (.int .i64 r.count) ∧ ((w.alloc (.cells #[.int .u8 r.freq, .int .i64 r.interval, .int .i64 r.count, .int .u8 r.uk, .int .i64 r.us, sv 4, sv 5, sv 6, sv 7, sv 8, sv 9, sv 10, sv 11, sv 12, .int .i64 r.wkst] 27)).alloc (.cells #[.int .u8 0, .int .i64 0, .int .i64 0, .int .u8 0, .int .i64 0, .slice none 0 0, .slice none 0 0, .slice none 0 0, .slice none 0 0, .slice none 0 0, .slice none 0 0, .slice none 0 0, .slice none 0 0, .slice none 0 0, .int .i64 0] 33)).cell? ⟨w.heap.size, 3, none⟩ = some (.int .u8 r.uk) ∧ ((w.alloc (.cells #[.int .u8 r.freq, .int .i64 r.interval, .int .i64 r.count, .int .u8 r.uk, .int .i64 r.us, sv 4, sv 5, sv 6, sv 7, sv 8, sv 9, sv 10, sv 11, sv 12, .int .i64 r.wkst] 27)).alloc (.cells #[.int .u8 0, .int .i64 0, .int .i64 0, .int .u8 0, .int .i64 0, .slice none 0 0, .slice none 0 0, .slice none 0 0, .slice none 0 0, .slice none 0 0, .slice none 0 0, .slice none 0 0, .slice none 0 0, .slice none 0 0, .int .i64 0] 33)).cell? ⟨w.heap.size, 4, none⟩ = some (.int .i64 r.us) ∧ ((w.alloc (.cells #[.int .u8 r.freq, .int .i64 r.interval, .int .i64 r.count, .int .u8 r.uk, .int .i64 r.us, sv 4, sv 5, sv 6, sv 7, sv 8, sv 9, sv 10, sv 11, sv 12, .int .i64 r.wkst] 27)).alloc (.cells #[.int .u8 0, .int .i64 0, .int .i64 0, .int .u8 0, .int .i64 0, .slice none 0 0, .slice none 0 0, .slice none 0 0, .slice none 0 0, .slice none 0 0, .slice none 0 0, .slice none 0 0, .slice none 0 0, .slice none 0 0, .int .i64 0] 33)).cell? ⟨w.heap.size, 5, none⟩ = some (sv 4) ∧ ((w.alloc (.cells #[.int .u8 r.freq, .int .i64 r.interval, .int .i64 r.count, .int .u8 r.uk, .int .i64 r.us, sv 4, sv 5, sv 6, sv 7, sv 8, sv 9, sv 10, sv 11, sv 12, .int .i64 r.wkst] 27)).alloc (.cells #[.int .u8 0, .int .i64 0, .int .i64 0, .int .u8 0, .int .i64 0, .slice none 0 0, .slice none 0 0, .slice none 0 0, .slice none 0 0, .slice none 0 0, .slice none 0 0, .slice none 0 0, .slice none 0 0, .slice none 0 0, .int .i64 0] 33)).cell? ⟨w.heap.size, 6, none⟩ = some (sv 5) ∧ ((w.alloc (.cells #[.int .u8 r.freq, .int .i64 r.interval, .int .i64 r.count, .int .u8 r.uk, .int .i64 r.us, sv 4, sv 5, sv 6, sv 7, sv 8, sv 9, sv 10, sv 11, sv 12, .int .i64 r.wkst] 27)).alloc (.cells #[.int .u8 0, .int .i64 0, .int .i64 0, .int .u8 0, .int .i64 0, .slice none 0 0, .slice none 0 0, .slice none 0 0, .slice none 0 0, .slice none 0 0, .slice none 0 0, .slice none 0 0, .slice none 0 0, .slice none 0 0, .int .i64 0] 33)).cell? ⟨w.heap.size, 7, none⟩ = some (sv 6) ∧ ((w.alloc (.cells #[.int .u8 r.freq, .int .i64 r.interval, .int .i64 r.count, .int .u8 r.uk, .int .i64 r.us, sv 4, sv 5, sv 6, sv 7, sv 8, sv 9, sv 10, sv 11, sv 12, .int .i64 r.wkst] 27)).alloc (.cells #[.int .u8 0, .int .i64 0, .int .i64 0, .int .u8 0, .int .i64 0, .slice none 0 0, .slice none 0 0, .slice none 0 0, .slice none 0 0, .slice none 0 0, .slice none 0 0, .slice none 0 0, .slice none 0 0, .slice none 0 0, .int .i64 0] 33)).cell? ⟨w.heap.size, 8, none⟩ = some (sv 7) ∧ ((w.alloc (.cells #[.int .u8 r.freq, .int .i64 r.interval, .int .i64 r.count, .int .u8 r.uk, .int .i64 r.us, sv 4, sv 5, sv 6, sv 7, sv 8, sv 9, sv 10, sv 11, sv 12, .int .i64 r.wkst] 27)).alloc (.cells #[.int .u8 0, .int .i64 0, .int .i64 0, .int .u8 0, .int .i64 0, .slice none 0 0, .slice none 0 0, .slice none 0 0, .slice none 0 0, .slice none 0 0, .slice none 0 0, .slice none 0 0, .slice none 0 0, .slice none 0 0, .int .i64 0] 33)).cell? ⟨w.heap.size, 9, none⟩ = some (sv 8) ∧ ((w.alloc (.cells #[.int .u8 r.freq, .int .i64 r.interval, .int .i64 r.count, .int .u8 r.uk, .int .i64 r.us, sv 4, sv 5, sv 6, sv 7, sv 8, sv 9, sv 10, sv 11, sv 12, .int .i64 r.wkst] 27)).alloc (.cells #[.int .u8 0, .int .i64 0, .int .i64 0, .int .u8 0, .int .i64 0, .slice none 0 0, .slice none 0 0, .slice none 0 0, .slice none 0 0, .slice none 0 0, .slice none 0 0, .slice none 0 0, .slice none 0 0, .slice none 0 0, .int .i64 0] 33)).cell? ⟨w.heap.size, 10, none⟩ = some (sv 9) ∧ ((w.alloc (.cells #[.int .u8 r.freq, .int .i64 r.interval, .int .i64 r.count, .int .u8 r.uk, .int .i64 r.us, sv 4, sv 5, sv 6, sv 7, sv 8, sv 9, sv 10, sv 11, sv 12, .int .i64 r.wkst] 27)).alloc (.cells #[.int .u8 0, .int .i64 0, .int .i64 0, .int .u8 0, .int .i64 0, .slice none 0 0, .slice none 0 0, .slice none 0 0, .slice none 0 0, .slice none 0 0, .slice none 0 0, .slice none 0 0, .slice none 0 0, .slice none 0 0, .int .i64 0] 33)).cell? ⟨w.heap.size, 11, none⟩ = some (sv 10) ∧ ((w.alloc (.cells #[.int .u8 r.freq, .int .i64 r.interval, .int .i64 r.count, .int .u8 r.uk, .int .i64 r.us, sv 4, sv 5, sv 6, sv 7, sv 8, sv 9, sv 10, sv 11, sv 12, .int .i64 r.wkst] 27)).alloc (.cells #[.int .u8 0, .int .i64 0, .int .i64 0, .int .u8 0, .int .i64 0, .slice none 0 0, .slice none 0 0, .slice none 0 0, .slice none 0 0, .slice none 0 0, .slice none 0 0, .slice none 0 0, .slice none 0 0, .slice none 0 0, .int .i64 0] 33)).cell? ⟨w.heap.size, 12, none⟩ = some (sv 11) ∧ ((w.alloc (.cells #[.int .u8 r.freq, .int .i64 r.interval, .int .i64 r.count, .int .u8 r.uk, .int .i64 r.us, sv 4, sv 5, sv 6, sv 7, sv 8, sv 9, sv 10, sv 11, sv 12, .int .i64 r.wkst] 27)).alloc (.cells #[.int .u8 0, .int .i64 0, .int .i64 0, .int .u8 0, .int .i64 0, .slice none 0 0, .slice none 0 0, .slice none 0 0, .slice none 0 0, .slice none 0 0, .slice none 0 0, .slice none 0 0, .slice none 0 0, .slice none 0 0, .int .i64 0] 33)).cell? ⟨w.heap.size, 13, none⟩ = some (sv 12) ∧ ((w.alloc (.cells #[.int .u8 r.freq, .int .i64 r.interval, .int .i64 r.count, .int .u8 r.uk, .int .i64 r.us, sv 4, sv 5, sv 6, sv 7, sv 8, sv 9, sv 10, sv 11, sv 12, .int .i64 r.wkst] 27)).alloc (.cells #[.int .u8 0, .int .i64 0, .int .i64 0, .int .u8 0, .int .i64 0, .slice none 0 0, .slice none 0 0, .slice none 0 0, .slice none 0 0, .slice none 0 0, .slice none 0 0, .slice none 0 0, .slice none 0 0, .slice none 0 0, .int .i64 0] 33)).cell? ⟨w.heap.size, 14, none⟩ = some (.int .i64 r.wkst) :=
    ⟨(own_two w #[.int .u8 r.freq, .int .i64 r.interval, .int .i64 r.count, .int .u8 r.uk, .int .i64 r.us, sv 4, sv 5, sv 6, sv 7, sv 8, sv 9, sv 10, sv 11, sv 12, .int .i64 r.wkst] _ _ 0).trans rfl, (own_two w #[.int .u8 r.freq, .int .i64 r.interval, .int .i64 r.count, .int .u8 r.uk, .int .i64 r.us, sv 4, sv 5, sv 6, sv 7, sv 8, sv 9, sv 10, sv 11, sv 12, .int .i64 r.wkst] _ _ 1).trans rfl, (own_two w #[.int .u8 r.freq, .int .i64 r.interval, .int .i64 r.count, .int .u8 r.uk, .int .i64 r.us, sv 4, sv 5, sv 6, sv 7, sv 8, sv 9, sv 10, sv 11, sv 12, .int .i64 r.wkst] _ _ 2).trans rfl, (own_two w #[.int .u8 r.freq, .int .i64 r.interval, .int .i64 r.count, .int .u8 r.uk, .int .i64 r.us, sv 4, sv 5, sv 6, sv 7, sv 8, sv 9, sv 10, sv 11, sv 12, .int .i64 r.wkst] _ _ 3).trans rfl, (own_two w #[.int .u8 r.freq, .int .i64 r.interval, .int .i64 r.count, .int .u8 r.uk, .int .i64 r.us, sv 4, sv 5, sv 6, sv 7, sv 8, sv 9, sv 10, sv 11, sv 12, .int .i64 r.wkst] _ _ 4).trans rfl, (own_two w #[.int .u8 r.freq, .int .i64 r.interval, .int .i64 r.count, .int .u8 r.uk, .int .i64 r.us, sv 4, sv 5, sv 6, sv 7, sv 8, sv 9, sv 10, sv 11, sv 12, .int .i64 r.wkst] _ _ 5).trans rfl, (own_two w #[.int .u8 r.freq, .int .i64 r.interval, .int .i64 r.count, .int .u8 r.uk, .int .i64 r.us, sv 4, sv 5, sv 6, sv 7, sv 8, sv 9, sv 10, sv 11, sv 12, .int .i64 r.wkst] _ _ 6).trans rfl, (own_two w #[.int .u8 r.freq, .int .i64 r.interval, .int .i64 r.count, .int .u8 r.uk, .int .i64 r.us, sv 4, sv 5, sv 6, sv 7, sv 8, sv 9, sv 10, sv 11, sv 12, .int .i64 r.wkst] _ _ 7).trans rfl, (own_two w #[.int .u8 r.freq, .int .i64 r.interval, .int .i64 r.count, .int .u8 r.uk, .int .i64 r.us, sv 4, sv 5, sv 6, sv 7, sv 8, sv 9, sv 10, sv 11, sv 12, .int .i64 r.wkst] _ _ 8).trans rfl, (own_two w #[.int .u8 r.freq, .int .i64 r.interval, .int .i64 r.count, .int .u8 r.uk, .int .i64 r.us, sv 4, sv 5, sv 6, sv 7, sv 8, sv 9, sv 10, sv 11, sv 12, .int .i64 r.wkst] _ _ 9).trans rfl, (own_two w #[.int .u8 r.freq, .int .i64 r.interval, .int .i64 r.count, .int .u8 r.uk, .int .i64 r.us, sv 4, sv 5, sv 6, sv 7, sv 8, sv 9, sv 10, sv 11, sv 12, .int .i64 r.wkst] _ _ 10).trans rfl, (own_two w #[.int .u8 r.freq, .int .i64 r.interval, .int .i64 r.count, .int .u8 r.uk, .int .i64 r.us, sv 4, sv 5, sv 6, sv 7, sv 8, sv 9, sv 10, sv 11, sv 12, .int .i64 r.wkst] _ _ 11).trans rfl, (own_two w #[.int .u8 r.freq, .int .i64 r.interval, .int .i64 r.count, .int .u8 r.uk, .int .i64 r.us, sv 4, sv 5, sv 6, sv 7, sv 8, sv 9, sv 10, sv 11, sv 12, .int .i64 r.wkst] _ _ 12).trans rfl, (own_two w #[.int .u8 r.freq, .int .i64 r.interval, .int .i64 r.count, .int .u8 r.uk, .int .i64 r.us, sv 4, sv 5, sv 6, sv 7, sv 8, sv 9, sv 10, sv 11, sv 12, .int .i64 r.wkst] _ _ 13).trans rfl, (own_two w #[.int .u8 r.freq, .int .i64 r.interval, .int .i64 r.count, .int .u8 r.uk, .int .i64 r.us, sv 4, sv 5, sv 6, sv 7, sv 8, sv 9, sv 10, sv 11, sv 12, .int .i64 r.wkst] _ _ 14).trans rfl⟩
  have B0 := Lib.hid (Below.next_alloc (Below.next_alloc (Below.refl _ w) (.cells #[.int .u8 r.freq, .int .i64 r.interval, .int .i64 r.count, .int .u8 r.uk, .int .i64 r.us, sv 4, sv 5, sv 6, sv 7, sv 8, sv 9, sv 10, sv 11, sv 12, .int .i64 r.wkst] 27)) (.cells #[.int .u8 0, .int .i64 0, .int .i64 0, .int .u8 0, .int .i64 0, .slice none 0 0, .slice none 0 0, .slice none 0 0, .slice none 0 0, .slice none 0 0, .slice none 0 0, .slice none 0 0, .slice none 0 0, .slice none 0 0, .int .i64 0] 33))
  have Z0 : ((w.alloc (.cells #[.int .u8 r.freq, .int .i64 r.interval, .int .i64 r.count, .int .u8 r.uk, .int .i64 r.us, sv 4, sv 5, sv 6, sv 7, sv 8, sv 9, sv 10, sv 11, sv 12, .int .i64 r.wkst] 27)).alloc (.cells #[.int .u8 0, .int .i64 0, .int .i64 0, .int .u8 0, .int .i64 0, .slice none 0 0, .slice none 0 0, .slice none 0 0, .slice none 0 0, .slice none 0 0, .slice none 0 0, .slice none 0 0, .slice none 0 0, .slice none 0 0, .int .i64 0] 33)).heap.size = w.heap.size + 2 := by simp
  have N0 : ∀ i v, (#[.int .u8 0, .int .i64 0, .int .i64 0, .int .u8 0, .int .i64 0, .slice none 0 0, .slice none 0 0, .slice none 0 0, .slice none 0 0, .slice none 0 0, .slice none 0 0, .slice none 0 0, .slice none 0 0, .slice none 0 0, .int .i64 0] : Array Value)[i]? = some v → ((w.alloc (.cells #[.int .u8 r.freq, .int .i64 r.interval, .int .i64 r.count, .int .u8 r.uk, .int .i64 r.us, sv 4, sv 5, sv 6, sv 7, sv 8, sv 9, sv 10, sv 11, sv 12, .int .i64 r.wkst] 27)).alloc (.cells #[.int .u8 0, .int .i64 0, .int .i64 0, .int .u8 0, .int .i64 0, .slice none 0 0, .slice none 0 0, .slice none 0 0, .slice none 0 0, .slice none 0 0, .slice none 0 0, .slice none 0 0, .slice none 0 0, .slice none 0 0, .int .i64 0] 33)).cell? ⟨w.heap.size + 1, i, none⟩ = some v := fun i v hv => by
    have h := World.cell?_alloc_new (w.alloc (.cells #[.int .u8 r.freq, .int .i64 r.interval, .int .i64 r.count, .int .u8 r.uk, .int .i64 r.us, sv 4, sv 5, sv 6, sv 7, sv 8, sv 9, sv 10, sv 11, sv 12, .int .i64 r.wkst] 27)) #[.int .u8 0, .int .i64 0, .int .i64 0, .int .u8 0, .int .i64 0, .slice none 0 0, .slice none 0 0, .slice none 0 0, .slice none 0 0, .slice none 0 0, .slice none 0 0, .slice none 0 0, .slice none 0 0, .slice none 0 0, .int .i64 0] 33 i
    rw [World.size_alloc] at h
    exact h.trans hv
  have M0 : ∀ i, ((w.alloc (.cells #[.int .u8 r.freq, .int .i64 r.interval, .int .i64 r.count, .int .u8 r.uk, .int .i64 r.us, sv 4, sv 5, sv 6, sv 7, sv 8, sv 9, sv 10, sv 11, sv 12, .int .i64 r.wkst] 27)).alloc (.cells #[.int .u8 0, .int .i64 0, .int .i64 0, .int .u8 0, .int .i64 0, .slice none 0 0, .slice none 0 0, .slice none 0 0, .slice none 0 0, .slice none 0 0, .slice none 0 0, .slice none 0 0, .slice none 0 0, .slice none 0 0, .int .i64 0] 33)).frozen? ⟨w.heap.size + 1, i, none⟩ = false := fun i => by
    have h := World.frozen?_alloc_new (w.alloc (.cells #[.int .u8 r.freq, .int .i64 r.interval, .int .i64 r.count, .int .u8 r.uk, .int .i64 r.us, sv 4, sv 5, sv 6, sv 7, sv 8, sv 9, sv 10, sv 11, sv 12, .int .i64 r.wkst] 27)) #[.int .u8 0, .int .i64 0, .int .i64 0, .int .u8 0, .int .i64 0, .slice none 0 0, .slice none 0 0, .slice none 0 0, .slice none 0 0, .slice none 0 0, .slice none 0 0, .slice none 0 0, .slice none 0 0, .slice none 0 0, .int .i64 0] 33 i
    rw [World.size_alloc] at h
    exact h
  replace N0 := Lib.hid N0
  replace M0 := Lib.hid M0
  generalize World.alloc _ _ = W0 at *
  have SL : ∀ W, Below W0.heap.size W0 W → (W.cell? ⟨w.heap.size, 0, none⟩ = some (.int .u8 r.freq) ∧ W.cell? ⟨w.heap.size, 1, none⟩ = some (.int .i64 r.interval) ∧ W.cell? ⟨w.heap.size, 2, none⟩ = some (.int .i64 r.count) ∧ W.cell? ⟨w.heap.size, 3, none⟩ = some (.int .u8 r.uk) ∧ W.cell? ⟨w.heap.size, 4, none⟩ = some (.int .i64 r.us) ∧ W.cell? ⟨w.heap.size, 5, none⟩ = some (sv 4) ∧ W.cell? ⟨w.heap.size, 6, none⟩ = some (sv 5) ∧ W.cell? ⟨w.heap.size, 7, none⟩ = some (sv 6) ∧ W.cell? ⟨w.heap.size, 8, none⟩ = some (sv 7) ∧ W.cell? ⟨w.heap.size, 9, none⟩ = some (sv 8) ∧ W.cell? ⟨w.heap.size, 10, none⟩ = some (sv 9) ∧ W.cell? ⟨w.heap.size, 11, none⟩ = some (sv 10) ∧ W.cell? ⟨w.heap.size, 12, none⟩ = some (sv 11) ∧ W.cell? ⟨w.heap.size, 13, none⟩ = some (sv 12) ∧ W.cell? ⟨w.heap.size, 14, none⟩ = some (.int .i64 r.wkst) ∧ W.cell? ⟨w.heap.size + 1, 0, none⟩ = some (held W ⟨w.heap.size + 1, 0, none⟩) ∧ W.cell? ⟨w.heap.size + 1, 1, none⟩ = some (held W ⟨w.heap.size + 1, 1, none⟩) ∧ W.cell? ⟨w.heap.size + 1, 2, none⟩ = some (held W ⟨w.heap.size + 1, 2, none⟩) ∧ W.cell? ⟨w.heap.size + 1, 3, none⟩ = some (held W ⟨w.heap.size + 1, 3, none⟩) ∧ W.cell? ⟨w.heap.size + 1, 4, none⟩ = some (held W ⟨w.heap.size + 1, 4, none⟩) ∧ W.cell? ⟨w.heap.size + 1, 5, none⟩ = some (held W ⟨w.heap.size + 1, 5, none⟩) ∧ W.cell? ⟨w.heap.size + 1, 6, none⟩ = some (held W ⟨w.heap.size + 1, 6, none⟩) ∧ W.cell? ⟨w.heap.size + 1, 7, none⟩ = some (held W ⟨w.heap.size + 1, 7, none⟩) ∧ W.cell? ⟨w.heap.size + 1, 8, none⟩ = some (held W ⟨w.heap.size + 1, 8, none⟩) ∧ W.cell? ⟨w.heap.size + 1, 9, none⟩ = some (held W ⟨w.heap.size + 1, 9, none⟩) ∧ W.cell? ⟨w.heap.size + 1, 10, none⟩ = some (held W ⟨w.heap.size + 1, 10, none⟩) ∧ W.cell? ⟨w.heap.size + 1, 11, none⟩ = some (held W ⟨w.heap.size + 1, 11, none⟩) ∧ W.cell? ⟨w.heap.size + 1, 12, none⟩ = some (held W ⟨w.heap.size + 1, 12, none⟩) ∧ W.cell? ⟨w.heap.size + 1, 13, none⟩ = some (held W ⟨w.heap.size + 1, 13, none⟩) ∧ W.cell? ⟨w.heap.size + 1, 14, none⟩ = some (held W ⟨w.heap.size + 1, 14, none⟩) ∧ W.frozen? ⟨w.heap.size + 1, 0, none⟩ = false ∧ W.frozen? ⟨w.heap.size + 1, 1, none⟩ = false ∧ W.frozen? ⟨w.heap.size + 1, 2, none⟩ = false ∧ W.frozen? ⟨w.heap.size + 1, 3, none⟩ = false ∧ W.frozen? ⟨w.heap.size + 1, 4, none⟩ = false ∧ W.frozen? ⟨w.heap.size + 1, 5, none⟩ = false ∧ W.frozen? ⟨w.heap.size + 1, 6, none⟩ = false ∧ W.frozen? ⟨w.heap.size + 1, 7, none⟩ = false ∧ W.frozen? ⟨w.heap.size + 1, 8, none⟩ = false ∧ W.frozen? ⟨w.heap.size + 1, 9, none⟩ = false ∧ W.frozen? ⟨w.heap.size + 1, 10, none⟩ = false ∧ W.frozen? ⟨w.heap.size + 1, 11, none⟩ = false ∧ W.frozen? ⟨w.heap.size + 1, 12, none⟩ = false ∧ W.frozen? ⟨w.heap.size + 1, 13, none⟩ = false ∧ W.frozen? ⟨w.heap.size + 1, 14, none⟩ = false) := fun W hB => by
    have k : ∀ i v, W0.cell? ⟨w.heap.size, i, none⟩ = some v → W.cell? ⟨w.heap.size, i, none⟩ = some v := fun i v hv => (hB.cell (p := ⟨w.heap.size, i, none⟩) (by rw [Z0]; simp only; omega)).trans hv
    have kz : ∀ i v, W0.cell? ⟨w.heap.size + 1, i, none⟩ = some v → W.cell? ⟨w.heap.size + 1, i, none⟩ = some v := fun i v hv => (hB.cell (p := ⟨w.heap.size + 1, i, none⟩) (by rw [Z0]; simp only; omega)).trans hv
    have kf : ∀ i, W.frozen? ⟨w.heap.size + 1, i, none⟩ = false := fun i => (hB.frozen (p := ⟨w.heap.size + 1, i, none⟩) (by rw [Z0]; simp only; omega)).trans (M0.out i)
    obtain ⟨k0, k1, k2, k3, k4, k5, k6, k7, k8, k9, k10, k11, k12, k13, k14⟩ := K0
    exact ⟨k _ _ k0, k _ _ k1, k _ _ k2, k _ _ k3, k _ _ k4, k _ _ k5, k _ _ k6, k _ _ k7, k _ _ k8, k _ _ k9, k _ _ k10, k _ _ k11, k _ _ k12, k _ _ k13, k _ _ k14, held_mk (kz _ _ (N0.out 0 _ rfl)), held_mk (kz _ _ (N0.out 1 _ rfl)), held_mk (kz _ _ (N0.out 2 _ rfl)), held_mk (kz _ _ (N0.out 3 _ rfl)), held_mk (kz _ _ (N0.out 4 _ rfl)), held_mk (kz _ _ (N0.out 5 _ rfl)), held_mk (kz _ _ (N0.out 6 _ rfl)), held_mk (kz _ _ (N0.out 7 _ rfl)), held_mk (kz _ _ (N0.out 8 _ rfl)), held_mk (kz _ _ (N0.out 9 _ rfl)), held_mk (kz _ _ (N0.out 10 _ rfl)), held_mk (kz _ _ (N0.out 11 _ rfl)), held_mk (kz _ _ (N0.out 12 _ rfl)), held_mk (kz _ _ (N0.out 13 _ rfl)), held_mk (kz _ _ (N0.out 14 _ rfl)), kf 0, kf 1, kf 2, kf 3, kf 4, kf 5, kf 6, kf 7, kf 8, kf 9, kf 10, kf 11, kf 12, kf 13, kf 14⟩
  clear K0
  obtain ⟨k0, k1, k2, k3, k4, k5, k6, k7, k8, k9, k10, k11, k12, k13, k14, l0, l1, l2, l3, l4, l5, l6, l7, l8, l9, l10, l11, l12, l13, l14, m0, m1, m2, m3, m4, m5, m6, m7, m8, m9, m10, m11, m12, m13, m14⟩ := SL W0 (Below.refl _ _)
  replace SL := Lib.hid SL
  go_region_held3 (fun w' => w'.cell? ⟨w.heap.size, 0, none⟩ = some (.int .u8 r.freq) ∧ w'.cell? ⟨w.heap.size, 1, none⟩ = some (.int .i64 r.interval) ∧ w'.cell? ⟨w.heap.size, 2, none⟩ = some (.int .i64 r.count) ∧ w'.cell? ⟨w.heap.size, 3, none⟩ = some (.int .u8 r.uk) ∧ w'.cell? ⟨w.heap.size, 4, none⟩ = some (.int .i64 r.us) ∧ w'.cell? ⟨w.heap.size, 5, none⟩ = some (sv 4) ∧ w'.cell? ⟨w.heap.size, 6, none⟩ = some (sv 5) ∧ w'.cell? ⟨w.heap.size, 7, none⟩ = some (sv 6) ∧ w'.cell? ⟨w.heap.size, 8, none⟩ = some (sv 7) ∧ w'.cell? ⟨w.heap.size, 9, none⟩ = some (sv 8) ∧ w'.cell? ⟨w.heap.size, 10, none⟩ = some (sv 9) ∧ w'.cell? ⟨w.heap.size, 11, none⟩ = some (sv 10) ∧ w'.cell? ⟨w.heap.size, 12, none⟩ = some (sv 11) ∧ w'.cell? ⟨w.heap.size, 13, none⟩ = some (sv 12) ∧ w'.cell? ⟨w.heap.size, 14, none⟩ = some (.int .i64 r.wkst) ∧ w'.cell? ⟨w.heap.size + 1, 0, none⟩ = some (held w' ⟨w.heap.size + 1, 0, none⟩) ∧ w'.cell? ⟨w.heap.size + 1, 1, none⟩ = some (held w' ⟨w.heap.size + 1, 1, none⟩) ∧ w'.cell? ⟨w.heap.size + 1, 2, none⟩ = some (held w' ⟨w.heap.size + 1, 2, none⟩) ∧ w'.cell? ⟨w.heap.size + 1, 3, none⟩ = some (held w' ⟨w.heap.size + 1, 3, none⟩) ∧ w'.cell? ⟨w.heap.size + 1, 4, none⟩ = some (held w' ⟨w.heap.size + 1, 4, none⟩) ∧ w'.cell? ⟨w.heap.size + 1, 5, none⟩ = some (held w' ⟨w.heap.size + 1, 5, none⟩) ∧ w'.cell? ⟨w.heap.size + 1, 6, none⟩ = some (held w' ⟨w.heap.size + 1, 6, none⟩) ∧ w'.cell? ⟨w.heap.size + 1, 7, none⟩ = some (held w' ⟨w.heap.size + 1, 7, none⟩) ∧ w'.cell? ⟨w.heap.size + 1, 8, none⟩ = some (held w' ⟨w.heap.size + 1, 8, none⟩) ∧ w'.cell? ⟨w.heap.size + 1, 9, none⟩ = some (held w' ⟨w.heap.size + 1, 9, none⟩) ∧ w'.cell? ⟨w.heap.size + 1, 10, none⟩ = some (held w' ⟨w.heap.size + 1, 10, none⟩) ∧ w'.cell? ⟨w.heap.size + 1, 11, none⟩ = some (held w' ⟨w.heap.size + 1, 11, none⟩) ∧ w'.cell? ⟨w.heap.size + 1, 12, none⟩ = some (held w' ⟨w.heap.size + 1, 12, none⟩) ∧ w'.cell? ⟨w.heap.size + 1, 13, none⟩ = some (held w' ⟨w.heap.size + 1, 13, none⟩) ∧ w'.cell? ⟨w.heap.size + 1, 14, none⟩ = some (held w' ⟨w.heap.size + 1, 14, none⟩) ∧ w'.frozen? ⟨w.heap.size + 1, 0, none⟩ = false ∧ w'.frozen? ⟨w.heap.size + 1, 1, none⟩ = false ∧ w'.frozen? ⟨w.heap.size + 1, 2, none⟩ = false ∧ w'.frozen? ⟨w.heap.size + 1, 3, none⟩ = false ∧ w'.frozen? ⟨w.heap.size + 1, 4, none⟩ = false ∧ w'.frozen? ⟨w.heap.size + 1, 5, none⟩ = false ∧ w'.frozen? ⟨w.heap.size + 1, 6, none⟩ = false ∧ w'.frozen? ⟨w.heap.size + 1, 7, none⟩ = false ∧ w'.frozen? ⟨w.heap.size + 1, 8, none⟩ = false ∧ w'.frozen? ⟨w.heap.size + 1, 9, none⟩ = false ∧ w'.frozen? ⟨w.heap.size + 1, 10, none⟩ = false ∧ w'.frozen? ⟨w.heap.size + 1, 11, none⟩ = false ∧ w'.frozen? ⟨w.heap.size + 1, 12, none⟩ = false ∧ w'.frozen? ⟨w.heap.size + 1, 13, none⟩ = false ∧ w'.frozen? ⟨w.heap.size + 1, 14, none⟩ = false) (first | ((with_reducible refine SL.out _ ?_); (with_reducible (repeat' (first | assumption | exact Below.refl _ _ | apply Below.next_alloc | apply Below.drew | (apply Below.next; rotate_left; assumption)))); done) | ((repeat' (with_reducible apply And.intro)) <;> (first | ((with_reducible refine held_is ?_); (repeat (with_reducible refine set_some ?_)); go_keep; done) | (go_keep; done))))
    (first
      | (go_at_call 34; (with_reducible refine (F4.out _ (Below.next B0.out (by (repeat' (first | assumption | exact Below.refl _ _ | apply Below.next_alloc | apply Below.drew | (apply Below.next; rotate_left; assumption)))))).mono ?_); rintro e y4 ⟨v4, rfl, hO4, hB4⟩; obtain ⟨p4, u4, rfl⟩ := hO4.slice)
      | (go_at_call 34; (with_reducible refine (F5.out _ (Below.next B0.out (by (repeat' (first | assumption | exact Below.refl _ _ | apply Below.next_alloc | apply Below.drew | (apply Below.next; rotate_left; assumption)))))).mono ?_); rintro e y5 ⟨v5, rfl, hO5, hB5⟩; obtain ⟨p5, u5, rfl⟩ := hO5.slice)
      | (go_at_call 34; (with_reducible refine (F6.out _ (Below.next B0.out (by (repeat' (first | assumption | exact Below.refl _ _ | apply Below.next_alloc | apply Below.drew | (apply Below.next; rotate_left; assumption)))))).mono ?_); rintro e y6 ⟨v6, rfl, hO6, hB6⟩; obtain ⟨p6, u6, rfl⟩ := hO6.slice)
      | (go_at_call 35; (with_reducible refine (F7.out _ (Below.next B0.out (by (repeat' (first | assumption | exact Below.refl _ _ | apply Below.next_alloc | apply Below.drew | (apply Below.next; rotate_left; assumption)))))).mono ?_); rintro e y7 ⟨v7, rfl, hO7, hB7⟩; obtain ⟨p7, u7, rfl⟩ := hO7.slice)
      | (go_at_call 34; (with_reducible refine (F8.out _ (Below.next B0.out (by (repeat' (first | assumption | exact Below.refl _ _ | apply Below.next_alloc | apply Below.drew | (apply Below.next; rotate_left; assumption)))))).mono ?_); rintro e y8 ⟨v8, rfl, hO8, hB8⟩; obtain ⟨p8, u8, rfl⟩ := hO8.slice)
      | (go_at_call 34; (with_reducible refine (F9.out _ (Below.next B0.out (by (repeat' (first | assumption | exact Below.refl _ _ | apply Below.next_alloc | apply Below.drew | (apply Below.next; rotate_left; assumption)))))).mono ?_); rintro e y9 ⟨v9, rfl, hO9, hB9⟩; obtain ⟨p9, u9, rfl⟩ := hO9.slice)
      | (go_at_call 34; (with_reducible refine (F10.out _ (Below.next B0.out (by (repeat' (first | assumption | exact Below.refl _ _ | apply Below.next_alloc | apply Below.drew | (apply Below.next; rotate_left; assumption)))))).mono ?_); rintro e y10 ⟨v10, rfl, hO10, hB10⟩; obtain ⟨p10, u10, rfl⟩ := hO10.slice)
      | (go_at_call 34; (with_reducible refine (F11.out _ (Below.next B0.out (by (repeat' (first | assumption | exact Below.refl _ _ | apply Below.next_alloc | apply Below.drew | (apply Below.next; rotate_left; assumption)))))).mono ?_); rintro e y11 ⟨v11, rfl, hO11, hB11⟩; obtain ⟨p11, u11, rfl⟩ := hO11.slice)
      | (go_at_call 34; (with_reducible refine (F12.out _ (Below.next B0.out (by (repeat' (first | assumption | exact Below.refl _ _ | apply Below.next_alloc | apply Below.drew | (apply Below.next; rotate_left; assumption)))))).mono ?_); rintro e y12 ⟨v12, rfl, hO12, hB12⟩; obtain ⟨p12, u12, rfl⟩ := hO12.slice))
  have BB := Lib.hid (Below.next (Below.next (Below.next (Below.next (Below.next (Below.next (Below.next (Below.next (Below.next B0.out.drew hB4) hB5) hB6) hB7) hB8) hB9) hB10) hB11) hB12)
  have BW := Lib.hid (Below.next (Below.next (Below.next (Below.next (Below.next (Below.next (Below.next (Below.next (Below.next (Below.refl W0.heap.size W0).drew hB4) hB5) hB6) hB7) hB8) hB9) hB10) hB11) hB12)
  have hSA : (((((((((((((((y12.setCell ⟨w.heap.size + 1, 0, none⟩ (.int .u8 r.freq)).setCell ⟨w.heap.size + 1, 1, none⟩ (.int .i64 r.interval)).setCell ⟨w.heap.size + 1, 2, none⟩ (.int .i64 r.count)).setCell ⟨w.heap.size + 1, 3, none⟩ (.int .u8 r.uk)).setCell ⟨w.heap.size + 1, 4, none⟩ (.int .i64 r.us)).setCell ⟨w.heap.size + 1, 5, none⟩ (.slice p4 r.sec.length u4)).setCell ⟨w.heap.size + 1, 6, none⟩ (.slice p5 r.min.length u5)).setCell ⟨w.heap.size + 1, 7, none⟩ (.slice p6 r.hour.length u6)).setCell ⟨w.heap.size + 1, 8, none⟩ (.slice p7 r.day.length u7)).setCell ⟨w.heap.size + 1, 9, none⟩ (.slice p8 r.mday.length u8)).setCell ⟨w.heap.size + 1, 10, none⟩ (.slice p9 r.yday.length u9)).setCell ⟨w.heap.size + 1, 11, none⟩ (.slice p10 r.weekno.length u10)).setCell ⟨w.heap.size + 1, 12, none⟩ (.slice p11 r.month.length u11)).setCell ⟨w.heap.size + 1, 13, none⟩ (.slice p12 r.setpos.length u12)).setCell ⟨w.heap.size + 1, 14, none⟩ (.int .i64 r.wkst)) = setAll (w.heap.size + 1) y12 0 [.int .u8 r.freq, .int .i64 r.interval, .int .i64 r.count, .int .u8 r.uk, .int .i64 r.us, .slice p4 r.sec.length u4, .slice p5 r.min.length u5, .slice p6 r.hour.length u6, .slice p7 r.day.length u7, .slice p8 r.mday.length u8, .slice p9 r.yday.length u9, .slice p10 r.weekno.length u10, .slice p11 r.month.length u11, .slice p12 r.setpos.length u12, .int .i64 r.wkst] := rfl
  rw [hSA]
  clear hSA
  have VV := Lib.hid (SL.out y12 BW.out).2.2.2.2.2.2.2.2.2.2.2.2.2.2.2
  have HS : ∀ j, 0 ≤ j → j < 0 + 15 → (y12.cell? ⟨w.heap.size + 1, j, none⟩).isSome = true := fun j _ hj => by
    obtain ⟨e0, e1, e2, e3, e4, e5, e6, e7, e8, e9, e10, e11, e12, e13, e14, -⟩ := VV.out
    match j, hj with
    | 0, _ => rw [e0]; rfl
    | 1, _ => rw [e1]; rfl
    | 2, _ => rw [e2]; rfl
    | 3, _ => rw [e3]; rfl
    | 4, _ => rw [e4]; rfl
    | 5, _ => rw [e5]; rfl
    | 6, _ => rw [e6]; rfl
    | 7, _ => rw [e7]; rfl
    | 8, _ => rw [e8]; rfl
    | 9, _ => rw [e9]; rfl
    | 10, _ => rw [e10]; rfl
    | 11, _ => rw [e11]; rfl
    | 12, _ => rw [e12]; rfl
    | 13, _ => rw [e13]; rfl
    | 14, _ => rw [e14]; rfl
  have CC := fun i v h => setAll_cell (w.heap.size + 1) [.int .u8 r.freq, .int .i64 r.interval, .int .i64 r.count, .int .u8 r.uk, .int .i64 r.us, .slice p4 r.sec.length u4, .slice p5 r.min.length u5, .slice p6 r.hour.length u6, .slice p7 r.day.length u7, .slice p8 r.mday.length u8, .slice p9 r.yday.length u9, .slice p10 r.weekno.length u10, .slice p11 r.month.length u11, .slice p12 r.setpos.length u12, .int .i64 r.wkst] y12 0 i v HS h
  have c0 := CC 0 _ rfl
  have c1 := CC 1 _ rfl
  have c2 := CC 2 _ rfl
  have c3 := CC 3 _ rfl
  have c4 := CC 4 _ rfl
  have c5 := CC 5 _ rfl
  have c6 := CC 6 _ rfl
  have c7 := CC 7 _ rfl
  have c8 := CC 8 _ rfl
  have c9 := CC 9 _ rfl
  have c10 := CC 10 _ rfl
  have c11 := CC 11 _ rfl
  have c12 := CC 12 _ rfl
  have c13 := CC 13 _ rfl
  have c14 := CC 14 _ rfl
  simp only [Nat.zero_add] at c0 c1 c2 c3 c4 c5 c6 c7 c8 c9 c10 c11 c12 c13 c14
  have hk := setAll_heap (w.heap.size + 1) [.int .u8 r.freq, .int .i64 r.interval, .int .i64 r.count, .int .u8 r.uk, .int .i64 r.us, .slice p4 r.sec.length u4, .slice p5 r.min.length u5, .slice p6 r.hour.length u6, .slice p7 r.day.length u7, .slice p8 r.mday.length u8, .slice p9 r.yday.length u9, .slice p10 r.weekno.length u10, .slice p11 r.month.length u11, .slice p12 r.setpos.length u12, .int .i64 r.wkst] y12 0
  have BF := Lib.hid (setAll_below (w.heap.size + 1) (Nat.le_succ _) [.int .u8 r.freq, .int .i64 r.interval, .int .i64 r.count, .int .u8 r.uk, .int .i64 r.us, .slice p4 r.sec.length u4, .slice p5 r.min.length u5, .slice p6 r.hour.length u6, .slice p7 r.day.length u7, .slice p8 r.mday.length u8, .slice p9 r.yday.length u9, .slice p10 r.weekno.length u10, .slice p11 r.month.length u11, .slice p12 r.setpos.length u12, .int .i64 r.wkst] y12 0 BB.out)
  have z4 : w.heap.size + 1 < W0.drew.heap.size := by show w.heap.size + 1 < W0.heap.size; omega
  have z5 : w.heap.size + 1 < y4.heap.size := Nat.lt_of_lt_of_le z4 hB4.size
  have z6 : w.heap.size + 1 < y5.heap.size := Nat.lt_of_lt_of_le z5 hB5.size
  have z7 : w.heap.size + 1 < y6.heap.size := Nat.lt_of_lt_of_le z6 hB6.size
  have z8 : w.heap.size + 1 < y7.heap.size := Nat.lt_of_lt_of_le z7 hB7.size
  have z9 : w.heap.size + 1 < y8.heap.size := Nat.lt_of_lt_of_le z8 hB8.size
  have z10 : w.heap.size + 1 < y9.heap.size := Nat.lt_of_lt_of_le z9 hB9.size
  have z11 : w.heap.size + 1 < y10.heap.size := Nat.lt_of_lt_of_le z10 hB10.size
  have z12 : w.heap.size + 1 < y11.heap.size := Nat.lt_of_lt_of_le z11 hB11.size
  have I4 := ((hO4.below (Below.next (Below.next (Below.next (Below.next (Below.next (Below.next (Below.next hB5 hB6) hB7) hB8) hB9) hB10) hB11) hB12)).moved (hk · ·) z4).ints
  have I5 := ((hO5.below (Below.next (Below.next (Below.next (Below.next (Below.next (Below.next hB6 hB7) hB8) hB9) hB10) hB11) hB12)).moved (hk · ·) z5).ints
  have I6 := ((hO6.below (Below.next (Below.next (Below.next (Below.next (Below.next hB7 hB8) hB9) hB10) hB11) hB12)).moved (hk · ·) z6).ints
  have I7 := ((hO7.below (Below.next (Below.next (Below.next (Below.next hB8 hB9) hB10) hB11) hB12)).moved (hk · ·) z7).days
  have I8 := ((hO8.below (Below.next (Below.next (Below.next hB9 hB10) hB11) hB12)).moved (hk · ·) z8).ints
  have I9 := ((hO9.below (Below.next (Below.next hB10 hB11) hB12)).moved (hk · ·) z9).ints
  have I10 := ((hO10.below (Below.next hB11 hB12)).moved (hk · ·) z10).ints
  have I11 := ((hO11.below hB12).moved (hk · ·) z11).ints
  have I12 := ((hO12.below (Below.refl _ _)).moved (hk · ·) z12).ints
  clear hk CC HS VV
  generalize setAll (w.heap.size + 1) y12 0 [.int .u8 r.freq, .int .i64 r.interval, .int .i64 r.count, .int .u8 r.uk, .int .i64 r.us, .slice p4 r.sec.length u4, .slice p5 r.min.length u5, .slice p6 r.hour.length u6, .slice p7 r.day.length u7, .slice p8 r.mday.length u8, .slice p9 r.yday.length u9, .slice p10 r.weekno.length u10, .slice p11 r.month.length u11, .slice p12 r.setpos.length u12, .int .i64 r.wkst] = Wf at *
  have LL : Lists Wf r (sv9 (.slice p4 r.sec.length u4) (.slice p5 r.min.length u5) (.slice p6 r.hour.length u6) (.slice p7 r.day.length u7) (.slice p8 r.mday.length u8) (.slice p9 r.yday.length u9) (.slice p10 r.weekno.length u10) (.slice p11 r.month.length u11) (.slice p12 r.setpos.length u12)) := by
    refine ⟨fun q h4 h12 h7 => ?_, I7⟩
    have hc : q = 4 ∨ q = 5 ∨ q = 6 ∨ q = 8 ∨ q = 9 ∨ q = 10 ∨ q = 11 ∨ q = 12 := by omega
    rcases hc with rfl | rfl | rfl | rfl | rfl | rfl | rfl | rfl
    · exact I4
    · exact I5
    · exact I6
    · exact I8
    · exact I9
    · exact I10
    · exact I11
    · exact I12
  replace LL := Lib.hid LL
  clear I4 hO4 hB4 z4 F4 I5 hO5 hB5 z5 F5 I6 hO6 hB6 z6 F6 I7 hO7 hB7 z7 F7 I8 hO8 hB8 z8 F8 I9 hO9 hB9 z9 F9 I10 hO10 hB10 z10 F10 I11 hO11 hB11 z11 F11 I12 hO12 hB12 z12 F12 SL B0 BB BW N0 M0
  go_wp2
  refine bodyPost_ret (v := ruleV r (sv9 (.slice p4 r.sec.length u4) (.slice p5 r.min.length u5) (.slice p6 r.hour.length u6) (.slice p7 r.day.length u7) (.slice p8 r.mday.length u8) (.slice p9 r.yday.length u9) (.slice p10 r.weekno.length u10) (.slice p11 r.month.length u11) (.slice p12 r.setpos.length u12))) (by simp [results, Tryz.results11, go_sem, ruleV, ruleC, sv9, c0, c1, c2, c3, c4, c5, c6, c7, c8, c9, c10, c11, c12, c13, c14]) rfl ⟨_, rfl, LL.out, BF.out⟩
end Go.Proofs.YtkbohijlhhpfbaaGreatDoor.Ra

/- An argument that is a rule, by value: what it is in memory. -/
namespace Go.Proofs.YtkbohijlhhpfbaaGreatDoor.Ra
open Go.ChangeShapes Go.WideShapes Go.RowKit Go.Deep Ru
def i64At : Value → Int
  | .int _ z => z
  | _ => 0
theorem add_eq (b o j : Nat) : (⟨b, o, none⟩ : Addr).add j = ⟨b, o + j, none⟩ := by
  simp [Addr.add]
section
variable {H : Type} {enc : TypeId × Value → H} {P : Program} {w : World} {base : Nat} {spare : Nat → Bool} {held : Bool}
theorem open_ints {t e : TypeId} {n : Nat} {v : Value} {x : DataW H × List MemPlace} (ht : P.underlying t = some (.slice e)) (he : P.underlying e = some (.int .i64)) (ce : P.cellsOf e = 1)
    (h : DataW.trod enc P w base spare held n t [v] = some x) : ∃ l, Ints w v l ∧ (∀ x ∈ l, (Lit.int .i64 x).wf = true) ∧ l.length ≤ 9223372036854775807 := by
  rcases open_slice ht h with ⟨hc, _⟩ | ⟨a, len, cap, m, k, D, Pl, hc, _, hl, hm, hmm, _, hall⟩
  · simp only [List.cons.injEq, and_true] at hc
    subst hc
    exact ⟨[], .inl ⟨rfl, _, _, rfl, fun _ => rfl⟩, by simp, by simp⟩
  · simp only [List.cons.injEq, and_true] at hc
    subst hc
    have hlm : len ≤ m := by rw [hmm]; split <;> omega
    have hs : ∀ i, i < len → w.cell? (a.add i) = some (.int .i64 (i64At ((w.cell? (a.add i)).getD (.bool false)))) ∧ (Lit.int .i64 (i64At ((w.cell? (a.add i)).getD (.bool false)))).wf = true := fun i hi => by
      obtain ⟨cs', h1, h2⟩ := hall i (by omega)
      rw [ce] at h1
      rw [Nat.mul_one] at h1
      obtain ⟨_, hcl, hat⟩ := World.cells?_some h1
      have h0 := hat 0 (by omega)
      obtain ⟨z, h3, _, h4⟩ := DataW.trod_int he h2
      have hz : w.cell? (a.add i) = some (.int .i64 z) := by
        rw [h3] at h0
        simpa [Addr.add] using h0
      rw [hz]
      exact ⟨rfl, h4⟩
    by_cases h0 : 0 < len
    · obtain ⟨b, o, spot⟩ := a
      have hspot : spot = none := by simpa [Addr.add] using World.cell?_spot (hs 0 h0).1
      subst hspot
      have hblk : b < w.heap.size := World.block_lt_of_cell? (a := (⟨b, o, none⟩ : Addr).add 0) _ (hs 0 h0).1
      refine ⟨(List.range len).map fun i => i64At ((w.cell? ((⟨b, o, none⟩ : Addr).add i)).getD (.bool false)), .inr ⟨by simpa using h0, b, o, cap, by simp, hblk, by simpa using hl, fun i hi => ?_⟩, fun x hx => ?_, ?_⟩
      · have hi' : i < len := by simpa using hi
        simp only [List.getElem_map, List.getElem_range]
        have := (hs i hi').1
        rwa [add_eq] at this ⊢
      · obtain ⟨i, hi, rfl⟩ := List.mem_map.1 hx
        exact (hs i (List.mem_range.1 hi)).2
      · simp only [List.length_map, List.length_range]; have : maxLen = 9223372036854775807 := by decide
        omega
    · obtain rfl : len = 0 := by omega
      exact ⟨[], .inl ⟨rfl, _, _, rfl, fun h => by cases h⟩, by simp, by simp⟩
theorem open_days {t e : TypeId} {f0 f1 : Field} {n : Nat} {v : Value} {x : DataW H × List MemPlace} (ht : P.underlying t = some (.slice e)) (he : P.underlying e = some (.struct #[f0, f1]))
    (ce : P.cellsOf e = 2) (o0 : f0.offset = 0) (o1 : f1.offset = 1) (c0 : P.cellsOf f0.type = 1) (c1 : P.cellsOf f1.type = 1) (u0 : P.underlying f0.type = some (.int .i64)) (u1 : P.underlying f1.type = some (.int .i64))
    (h : DataW.trod enc P w base spare held n t [v] = some x) : ∃ l, Days w v l ∧ l.length ≤ 9223372036854775807 := by
  rcases open_slice_pairs ht he ce o0 o1 c0 c1 h with ⟨hc, _⟩ | ⟨a, len, cap, m, k, V0, V1, D0, D1, P0, P1, hc, _, hl, hm, hmm, hx, hall⟩
  · simp only [List.cons.injEq, and_true] at hc
    subst hc
    exact ⟨[], .inl ⟨rfl, _, _, rfl, fun _ => rfl⟩, by simp⟩
  · simp only [List.cons.injEq, and_true] at hc
    subst hc
    have hlm : len ≤ m := by rw [hmm]; split <;> omega
    by_cases h0 : 0 < len
    · obtain ⟨b, o, spot⟩ := a
      have hspot : spot = none := by simpa [Addr.add] using World.cell?_spot (hall 0 (by omega)).1
      subst hspot
      have hs : ∀ i, i < len → V0 i = .int .i64 (i64At (V0 i)) ∧ V1 i = .int .i64 (i64At (V1 i)) := fun i hi => by
        have hh := hall i (by omega)
        obtain ⟨s, h1, _, _⟩ := DataW.trod_int u0 hh.2.2.1
        obtain ⟨z, h2, _, _⟩ := DataW.trod_int u1 hh.2.2.2
        simp only [List.cons.injEq, and_true] at h1 h2
        rw [h1, h2]; exact ⟨rfl, rfl⟩
      have hblk : b < w.heap.size := World.block_lt_of_cell? (a := (⟨b, o, none⟩ : Addr).add (0 * 2)) _ (hall 0 (by omega)).1
      refine ⟨(List.range len).map fun i => (i64At (V0 i), i64At (V1 i)), .inr ⟨by simpa using h0, b, o, cap, by simp, hblk, by simpa using hl, fun i hi => ?_⟩, ?_⟩
      · have hi' : i < len := by simpa using hi
        have hh := hall i (by omega)
        have g := hs i hi'
        simp only [List.getElem_map, List.getElem_range]
        rw [← g.1, ← g.2]
        have e1 := hh.1
        have e2 := hh.2.1
        rw [add_eq] at e1 e2
        exact ⟨e1, by rw [Nat.add_assoc]; exact e2⟩
      · simp only [List.length_map, List.length_range]; have : maxLen = 9223372036854775807 := by decide
        omega
    · obtain rfl : len = 0 := by omega
      exact ⟨[], .inl ⟨rfl, _, _, rfl, fun h => by cases h⟩, by simp⟩
theorem field_at {α : Type} {fs : Array Field} {g : Field → α} {l : List α} (h : fs.toList.map g = l) (j : Nat) (a : α) (ha : l[j]? = some a) : ∃ f, fs[j]? = some f ∧ g f = a := by
  rw [← h, List.getElem?_map, Option.map_eq_some_iff] at ha
  obtain ⟨f, hf, hg⟩ := ha
  exact ⟨f, by simpa using hf, hg⟩
set_option maxRecDepth 100000 in
theorem open_rule {r : Reach} {b0 : Nat} {t T8 TI TV TL TD eI eD : TypeId} {fs : Array Field} {v0 v1 d0 d1 : Field} {v : Value} {d : DataW H} {p : List MemPlace} (hs : P.underlying t = some (.struct fs)) (hC : P.cellsOf t = 15)
    (hF : fs.toList.map (fun f => (f.offset, P.cellsOf f.type, f.type)) = [(0, 1, T8), (1, 1, TI), (2, 1, TI), (3, 2, TV), (5, 1, TL), (6, 1, TL), (7, 1, TL), (8, 1, TD), (9, 1, TL), (10, 1, TL), (11, 1, TL), (12, 1, TL), (13, 1, TL), (14, 1, TI)])
    (u8 : P.underlying T8 = some (.int .u8)) (uI : P.underlying TI = some (.int .i64)) (uV : P.underlying TV = some (.struct #[v0, v1])) (oV0 : v0.offset = 0) (oV1 : v1.offset = 1) (cV0 : P.cellsOf v0.type = 1) (cV1 : P.cellsOf v1.type = 1)
    (uV0 : P.underlying v0.type = some (.int .u8)) (uV1 : P.underlying v1.type = some (.int .i64)) (uL : P.underlying TL = some (.slice eI)) (heI : P.underlying eI = some (.int .i64)) (ceI : P.cellsOf eI = 1)
    (uD : P.underlying TD = some (.slice eD)) (heD : P.underlying eD = some (.struct #[d0, d1])) (ceD : P.cellsOf eD = 2) (oD0 : d0.offset = 0) (oD1 : d1.offset = 1) (cD0 : P.cellsOf d0.type = 1) (cD1 : P.cellsOf d1.type = 1) (uD0 : P.underlying d0.type = some (.int .i64)) (uD1 : P.underlying d1.type = some (.int .i64))
    (hv : Value.okWide P w r b0 t v) (h : DataW.Trod enc P w base spare held t v d p) :
    ∃ (x : R) (sv : Nat → Value), v = ruleV x sv ∧ Lists w x sv ∧ (0 ≤ x.freq ∧ 0 ≤ x.uk ∧ x.uk ≤ 255) ∧ (∀ q, 4 ≤ q → q ≤ 12 → q ≠ 7 → ∀ z ∈ lst x q, (Lit.int .i64 z).wf = true) ∧ (∀ q, 4 ≤ q → q ≤ 12 → q ≠ 7 → (lst x q).length ≤ 9223372036854775807) ∧ x.day.length ≤ 9223372036854775807 := by
  unfold Value.okWide at hv
  rw [hs] at hv
  obtain ⟨cs, rfl, hsz, _⟩ := hv
  rw [hC] at hsz
  obtain ⟨cl⟩ := cs
  match cl, hsz with
  | [c0, c1, c2, c3, c4, c5, c6, c7, c8, c9, c10, c11, c12, c13, c14], _ =>
    obtain ⟨fuel, hf⟩ := h
    obtain ⟨xs, n, _, _, _, hxl, hg⟩ := DataW.trod_struct hs hf
    have part : ∀ (j o c : Nat) (T : TypeId), ([(0, 1, T8), (1, 1, TI), (2, 1, TI), (3, 2, TV), (5, 1, TL), (6, 1, TL), (7, 1, TL), (8, 1, TD), (9, 1, TL), (10, 1, TL), (11, 1, TL), (12, 1, TL), (13, 1, TL), (14, 1, TI)] : List (Nat × Nat × TypeId))[j]? = some (o, c, T) → ∃ y, DataW.trod enc P w base spare held n T (([c0, c1, c2, c3, c4, c5, c6, c7, c8, c9, c10, c11, c12, c13, c14].drop o).take c) = some y := by
      intro j o c T hj
      obtain ⟨f, hf, he⟩ := field_at hF j _ hj
      simp only [Prod.mk.injEq] at he
      have h1 := hg j f hf
      have hlt : j < fs.size := (Array.getElem?_eq_some_iff.1 hf).1
      rw [List.getElem?_eq_getElem (by omega), he.1, he.2.1, he.2.2] at h1
      exact ⟨_, h1⟩
    obtain ⟨y0, g0⟩ := part 0 0 1 T8 rfl
    obtain ⟨k, hk, _, wk⟩ := DataW.trod_int u8 g0
    obtain ⟨y1, g1⟩ := part 1 1 1 TI rfl
    obtain ⟨iv, hiv, _, _⟩ := DataW.trod_int uI g1
    obtain ⟨y2, g2⟩ := part 2 2 1 TI rfl
    obtain ⟨ct, hct, _, _⟩ := DataW.trod_int uI g2
    obtain ⟨y3, g3⟩ := part 3 3 2 TV rfl
    obtain ⟨ys, m, _, _, _, hyl, hq⟩ := DataW.trod_struct uV g3
    have hyl2 : ys.length = 2 := hyl
    have q0 := hq 0 v0 rfl
    have q1 := hq 1 v1 rfl
    rw [oV0, cV0, List.getElem?_eq_getElem (by omega)] at q0
    rw [oV1, cV1, List.getElem?_eq_getElem (by omega)] at q1
    obtain ⟨uk, huk, _, wuk⟩ := DataW.trod_int uV0 q0
    obtain ⟨us, hus, _, _⟩ := DataW.trod_int uV1 q1
    obtain ⟨y13, g13⟩ := part 13 14 1 TI rfl
    obtain ⟨ws, hws, _, _⟩ := DataW.trod_int uI g13
    obtain ⟨y7, g7⟩ := part 7 8 1 TD rfl
    obtain ⟨ld, hld, nld⟩ := open_days uD heD ceD oD0 oD1 cD0 cD1 uD0 uD1 g7
    obtain ⟨y4, g4⟩ := part 4 5 1 TL rfl
    obtain ⟨l4, hl4, wl4, nl4⟩ := open_ints uL heI ceI g4
    obtain ⟨y5, g5⟩ := part 5 6 1 TL rfl
    obtain ⟨l5, hl5, wl5, nl5⟩ := open_ints uL heI ceI g5
    obtain ⟨y6, g6⟩ := part 6 7 1 TL rfl
    obtain ⟨l6, hl6, wl6, nl6⟩ := open_ints uL heI ceI g6
    obtain ⟨y8, g8⟩ := part 8 9 1 TL rfl
    obtain ⟨l8, hl8, wl8, nl8⟩ := open_ints uL heI ceI g8
    obtain ⟨y9, g9⟩ := part 9 10 1 TL rfl
    obtain ⟨l9, hl9, wl9, nl9⟩ := open_ints uL heI ceI g9
    obtain ⟨y10, g10⟩ := part 10 11 1 TL rfl
    obtain ⟨l10, hl10, wl10, nl10⟩ := open_ints uL heI ceI g10
    obtain ⟨y11, g11⟩ := part 11 12 1 TL rfl
    obtain ⟨l11, hl11, wl11, nl11⟩ := open_ints uL heI ceI g11
    obtain ⟨y12, g12⟩ := part 12 13 1 TL rfl
    obtain ⟨l12, hl12, wl12, nl12⟩ := open_ints uL heI ceI g12
    simp only [List.drop, List.take, List.cons.injEq, and_true] at hk hiv hct huk hus hws
    subst hk hiv hct huk hus hws
    refine ⟨⟨k, iv, ct, uk, us, l4, l5, l6, ld, l8, l9, l10, l11, l12, ws⟩, sv9 c5 c6 c7 c8 c9 c10 c11 c12 c13, rfl, ⟨fun q h4 h12 h7 => ?_, hld⟩, ?_, fun q h4 h12 h7 => ?_, fun q h4 h12 h7 => ?_, nld⟩
    · have hc : q = 4 ∨ q = 5 ∨ q = 6 ∨ q = 8 ∨ q = 9 ∨ q = 10 ∨ q = 11 ∨ q = 12 := by omega
      rcases hc with rfl | rfl | rfl | rfl | rfl | rfl | rfl | rfl <;> assumption
    · have b1 := bounds_u8 wk
      have b2 := bounds_u8 wuk
      exact ⟨b1.1, b2.1, b2.2⟩
    · have hc : q = 4 ∨ q = 5 ∨ q = 6 ∨ q = 8 ∨ q = 9 ∨ q = 10 ∨ q = 11 ∨ q = 12 := by omega
      rcases hc with rfl | rfl | rfl | rfl | rfl | rfl | rfl | rfl <;> assumption
    · have hc : q = 4 ∨ q = 5 ∨ q = 6 ∨ q = 8 ∨ q = 9 ∨ q = 10 ∨ q = 11 ∨ q = 12 := by omega
      rcases hc with rfl | rfl | rfl | rfl | rfl | rfl | rfl | rfl <;> assumption
end
end Go.Proofs.YtkbohijlhhpfbaaGreatDoor.Ra


/- The walks through errandlaw21's Small and ints, and errandlaw20's Own. -/
import Derived.Test.YtndicgfafdhieaaRm
import Derived.Test.YtndicgfafdhieaaRj
import Derived.Laws.AppendOwnNone
import Derived.Deep.AppendLies
namespace Go.Proofs.Ytndicgfafdhieaa.Ra
open Go.RowKit Ru Ut Cw
def smallR (r : R) : Bool := decide (r.sec.length ≤ 20 ∧ r.min.length ≤ 20 ∧ r.hour.length ≤ 20 ∧ r.day.length ≤ 20 ∧ r.mday.length ≤ 20 ∧ r.yday.length ≤ 20 ∧ r.weekno.length ≤ 20 ∧ r.month.length ≤ 20 ∧ r.setpos.length ≤ 20)
theorem smallR_iff {r : R} : smallR r = true ↔ (r.sec.length ≤ 20 ∧ r.min.length ≤ 20 ∧ r.hour.length ≤ 20 ∧ r.day.length ≤ 20 ∧ r.mday.length ≤ 20 ∧ r.yday.length ≤ 20 ∧ r.weekno.length ≤ 20 ∧ r.month.length ≤ 20 ∧ r.setpos.length ≤ 20) := decide_eq_true_iff
theorem smallR_no {r : R} (h : ¬ (r.sec.length ≤ 20 ∧ r.min.length ≤ 20 ∧ r.hour.length ≤ 20 ∧ r.day.length ≤ 20 ∧ r.mday.length ≤ 20 ∧ r.yday.length ≤ 20 ∧ r.weekno.length ≤ 20 ∧ r.month.length ≤ 20 ∧ r.setpos.length ≤ 20)) : smallR r = false := decide_eq_false h
theorem short_small {r : R} (h : smallR r = true) : Short r := by
  have h := smallR_iff.1 h
  refine ⟨fun q h4 h12 h7 => ?_, by omega⟩
  have hc : q = 4 ∨ q = 5 ∨ q = 6 ∨ q = 8 ∨ q = 9 ∨ q = 10 ∨ q = 11 ∨ q = 12 := by omega
  rcases hc with rfl | rfl | rfl | rfl | rfl | rfl | rfl | rfl <;> simp [lst] <;> omega
set_option maxHeartbeats 4000000 in
set_option maxRecDepth 100000 in
theorem small_any (w : World) (r : R) (sv : Nat → Value) (hL : Lists w r sv) (hn : ∀ q, 4 ≤ q → q ≤ 12 → q ≠ 7 → (lst r q).length ≤ 9223372036854775807) (hn7 : r.day.length ≤ 9223372036854775807) : Calls Try.prog 7 #[.agg (ruleC r sv)] w fun e w' => e = .returned (.bool (smallR r)) ∧ Below w.heap.size w w' := by
  obtain ⟨a4, k4, e4⟩ := (hL.1 4 (by decide) (by decide) (by decide)).slice
  change sv 4 = .slice a4 r.sec.length k4 at e4
  have n4 : r.sec.length ≤ 9223372036854775807 := hn 4 (by decide) (by decide) (by decide)
  obtain ⟨a5, k5, e5⟩ := (hL.1 5 (by decide) (by decide) (by decide)).slice
  change sv 5 = .slice a5 r.min.length k5 at e5
  have n5 : r.min.length ≤ 9223372036854775807 := hn 5 (by decide) (by decide) (by decide)
  obtain ⟨a6, k6, e6⟩ := (hL.1 6 (by decide) (by decide) (by decide)).slice
  change sv 6 = .slice a6 r.hour.length k6 at e6
  have n6 : r.hour.length ≤ 9223372036854775807 := hn 6 (by decide) (by decide) (by decide)
  obtain ⟨a8, k8, e8⟩ := (hL.1 8 (by decide) (by decide) (by decide)).slice
  change sv 8 = .slice a8 r.mday.length k8 at e8
  have n8 : r.mday.length ≤ 9223372036854775807 := hn 8 (by decide) (by decide) (by decide)
  obtain ⟨a9, k9, e9⟩ := (hL.1 9 (by decide) (by decide) (by decide)).slice
  change sv 9 = .slice a9 r.yday.length k9 at e9
  have n9 : r.yday.length ≤ 9223372036854775807 := hn 9 (by decide) (by decide) (by decide)
  obtain ⟨a10, k10, e10⟩ := (hL.1 10 (by decide) (by decide) (by decide)).slice
  change sv 10 = .slice a10 r.weekno.length k10 at e10
  have n10 : r.weekno.length ≤ 9223372036854775807 := hn 10 (by decide) (by decide) (by decide)
  obtain ⟨a11, k11, e11⟩ := (hL.1 11 (by decide) (by decide) (by decide)).slice
  change sv 11 = .slice a11 r.month.length k11 at e11
  have n11 : r.month.length ≤ 9223372036854775807 := hn 11 (by decide) (by decide) (by decide)
  obtain ⟨a12, k12, e12⟩ := (hL.1 12 (by decide) (by decide) (by decide)).slice
  change sv 12 = .slice a12 r.setpos.length k12 at e12
  have n12 : r.setpos.length ≤ 9223372036854775807 := hn 12 (by decide) (by decide) (by decide)
  obtain ⟨a7, k7, e7⟩ := hL.2.slice
  unfold ruleC
  rw [e4, e5, e6, e7, e8, e9, e10, e11, e12]
  clear e4 e5 e6 e7 e8 e9 e10 e11 e12 hL hn
  by_cases c4 : r.sec.length ≤ 20
  rotate_left
  · have hr := Lib.hid (smallR_no (r := r) (by omega))
    go_enter Try.func7, Try.ntmps7
    go_wp2
    go_ret
    exact ⟨ret_b hr.out.symm, by (repeat' (first | assumption | exact Below.refl _ _ | apply Below.next_alloc | apply Below.drew | (apply Below.next; rotate_left; assumption)))⟩
  by_cases c5 : r.min.length ≤ 20
  rotate_left
  · have hr := Lib.hid (smallR_no (r := r) (by omega))
    go_enter Try.func7, Try.ntmps7
    go_wp2
    go_ret
    exact ⟨ret_b hr.out.symm, by (repeat' (first | assumption | exact Below.refl _ _ | apply Below.next_alloc | apply Below.drew | (apply Below.next; rotate_left; assumption)))⟩
  by_cases c6 : r.hour.length ≤ 20
  rotate_left
  · have hr := Lib.hid (smallR_no (r := r) (by omega))
    go_enter Try.func7, Try.ntmps7
    go_wp2
    go_ret
    exact ⟨ret_b hr.out.symm, by (repeat' (first | assumption | exact Below.refl _ _ | apply Below.next_alloc | apply Below.drew | (apply Below.next; rotate_left; assumption)))⟩
  by_cases c7 : r.day.length ≤ 20
  rotate_left
  · have hr := Lib.hid (smallR_no (r := r) (by omega))
    go_enter Try.func7, Try.ntmps7
    go_wp2
    go_ret
    exact ⟨ret_b hr.out.symm, by (repeat' (first | assumption | exact Below.refl _ _ | apply Below.next_alloc | apply Below.drew | (apply Below.next; rotate_left; assumption)))⟩
  by_cases c8 : r.mday.length ≤ 20
  rotate_left
  · have hr := Lib.hid (smallR_no (r := r) (by omega))
    go_enter Try.func7, Try.ntmps7
    go_wp2
    go_ret
    exact ⟨ret_b hr.out.symm, by (repeat' (first | assumption | exact Below.refl _ _ | apply Below.next_alloc | apply Below.drew | (apply Below.next; rotate_left; assumption)))⟩
  by_cases c9 : r.yday.length ≤ 20
  rotate_left
  · have hr := Lib.hid (smallR_no (r := r) (by omega))
    go_enter Try.func7, Try.ntmps7
    go_wp2
    go_ret
    exact ⟨ret_b hr.out.symm, by (repeat' (first | assumption | exact Below.refl _ _ | apply Below.next_alloc | apply Below.drew | (apply Below.next; rotate_left; assumption)))⟩
  by_cases c10 : r.weekno.length ≤ 20
  rotate_left
  · have hr := Lib.hid (smallR_no (r := r) (by omega))
    go_enter Try.func7, Try.ntmps7
    go_wp2
    go_ret
    exact ⟨ret_b hr.out.symm, by (repeat' (first | assumption | exact Below.refl _ _ | apply Below.next_alloc | apply Below.drew | (apply Below.next; rotate_left; assumption)))⟩
  by_cases c11 : r.month.length ≤ 20
  rotate_left
  · have hr := Lib.hid (smallR_no (r := r) (by omega))
    go_enter Try.func7, Try.ntmps7
    go_wp2
    go_ret
    exact ⟨ret_b hr.out.symm, by (repeat' (first | assumption | exact Below.refl _ _ | apply Below.next_alloc | apply Below.drew | (apply Below.next; rotate_left; assumption)))⟩
  by_cases c12 : r.setpos.length ≤ 20
  rotate_left
  · have hr := Lib.hid (smallR_no (r := r) (by omega))
    go_enter Try.func7, Try.ntmps7
    go_wp2
    go_ret
    exact ⟨ret_b ((decide_eq_false (by omega)).trans hr.out.symm), by (repeat' (first | assumption | exact Below.refl _ _ | apply Below.next_alloc | apply Below.drew | (apply Below.next; rotate_left; assumption)))⟩
  have hr := Lib.hid (smallR_iff.2 ⟨c4, c5, c6, c7, c8, c9, c10, c11, c12⟩)
  go_enter Try.func7, Try.ntmps7
  go_wp2
  go_ret
  exact ⟨ret_b ((decide_eq_true (by omega)).trans hr.out.symm), by (repeat' (first | assumption | exact Below.refl _ _ | apply Below.next_alloc | apply Below.drew | (apply Below.next; rotate_left; assumption)))⟩
def dc : List (Int × Int) → List Value
  | [] => []
  | d :: l => .int .i64 d.1 :: .int .i64 d.2 :: dc l
theorem dc_length : ∀ l, (dc l).length = l.length * 2
  | [] => rfl
  | d :: l => by simp only [dc, List.length_cons, dc_length l]; omega
theorem dc_append : ∀ l m, dc (l ++ m) = dc l ++ dc m
  | [], _ => rfl
  | d :: l, m => by simp only [List.cons_append, dc, dc_append l m]
theorem dc_at : ∀ (l : List (Int × Int)) (i : Nat) (h : i < l.length), (dc l)[i * 2]? = some (.int .i64 l[i].1) ∧ (dc l)[i * 2 + 1]? = some (.int .i64 l[i].2)
  | d :: l, 0, _ => by simp [dc]
  | d :: l, i + 1, h => by
    have := dc_at l i (by simpa using h)
    simp only [dc, List.getElem_cons_succ]
    rw [show (i + 1) * 2 = i * 2 + 1 + 1 by omega, show (i * 2 + 1 + 1) + 1 = (i * 2 + 1) + 1 + 1 by omega]
    simpa using this
/-- the call's own row of weekdays from block B on -/
def OwnD (w : World) (B : Nat) (v : Value) (l : List (Int × Int)) : Prop := w.ownsRow B 71 2 v l.length (dc l)
theorem OwnD.nil (w : World) (B : Nat) : OwnD w B (.slice none 0 0) [] := World.ownsRow_nil _ _ _ _
theorem OwnD.below {w W : World} {B : Nat} {v : Value} {l : List (Int × Int)} (h : OwnD w B v l) (hB : Below w.heap.size w W) : OwnD W B v l := ownsRow_below h hB
theorem OwnD.days {w : World} {B : Nat} {v : Value} {l : List (Int × Int)} (h : OwnD w B v l) : Days w v l := by
  by_cases h0 : l.length = 0
  · obtain rfl : l = [] := List.length_eq_zero_iff.1 h0
    refine .inl ⟨rfl, ?_⟩
    rcases h.2 with ⟨rfl, _⟩ | ⟨g, cap, cur, rfl, _⟩
    · exact ⟨none, 0, rfl, fun _ => rfl⟩
    · exact ⟨_, cap, rfl, fun h => by cases h⟩
  · obtain ⟨g, cap, rfl, hb, hg, hc, _, hcell⟩ := ownsRow_pos h (by omega)
    refine .inr ⟨by omega, g, 0, cap, rfl, hg, hc, fun i hi => ?_⟩
    have hd := dc_at l i hi
    have h1 := hcell _ _ hd.1
    have h2 := hcell _ _ hd.2
    rw [Nat.zero_add]
    exact ⟨h1, h2⟩
theorem OwnD.slice {w : World} {B : Nat} {v : Value} {l : List (Int × Int)} (h : OwnD w B v l) : ∃ a c, v = .slice a l.length c := by
  rcases h.2 with ⟨rfl, h0⟩ | ⟨g, cap, cur, rfl, _⟩
  · exact ⟨none, 0, by rw [h0]⟩
  · exact ⟨_, _, rfl⟩
def GivesD (w : World) (l : List (Int × Int)) (e : Ending) (w' : World) : Prop := ∃ v, e = .returned v ∧ OwnD w' w.heap.size v l ∧ Below w.heap.size w w'
theorem infoDay : (Try.prog.info? 71).map (fun i => (i.zero, i.size, i.bytes)) = some (some (.agg #[.int .i64 0, .int .i64 0]), 2, 16) := by kernel_rfl
theorem push_day {ops : Array Oper} {rest : List Oper} {o : Oper} {a : Act} {Q : Exit → Act → World → Prop} {W : World} {T' : TypeId} {p q : Int} (hgd : o.guard = none) (s x : Operand)
    (ho : o.op = .call { callee := .builtin .append, args := #[s, x], argTypes := #[32, 32] }) (B : Nat) (v : Value) (l : List (Int × Int)) (hs : a.eval s = v) (hown : OwnD W B v l)
    (hx : a.eval x = .slice (some ⟨W.heap.size, 0, none⟩) 1 1) (hn : l.length ≤ 1000000) (hB : B ≤ W.heap.size)
    (h : ∀ v' w', OwnD w' B v' (l ++ [(p, q)]) → Below B W w' → wpList Try.prog ops Q rest (a.put o.dst v') w') : wpList Try.prog ops Q (o :: rest) a (W.alloc (.cells #[.int .i64 p, .int .i64 q] T')) := by
  obtain ⟨i0, hi, hz0, hz1, hz2⟩ := info_parts infoDay
  refine wpList_append_own (W.alloc (.cells #[.int .i64 p, .int .i64 q] T')) hgd s x _ ho B 71 i0 _ 2 16 Try.underlying32 hi hz0 hz1 hz2 rfl (by decide) v l.length (dc l) hs (World.ownsRow.alloc hown _)
    ⟨W.heap.size, 0, none⟩ 1 1 [.int .i64 p, .int .i64 q] hx rfl ?_ (by simp [Value.oneCell']) (by unfold maxLen; omega) (by omega) (by simp; omega) fun v' w' h1 h2 _ => ?_
  · intro j u hj
    match j, hj with
    | 0, hj => simp at hj; subst hj; simp [Addr.add]
    | 1, hj => simp at hj; subst hj; simp [Addr.add]
  refine h v' w' ?_ (((Below.refl B W).alloc hB _).grown h2 (by simp; omega) fun k hk => (hown.lt k hk).1)
  unfold OwnD
  rw [dc_append, List.length_append]
  exact h1
set_option maxHeartbeats 1000000 in
theorem ownDays_any {w : World} {v : Value} {l : List (Int × Int)} (hl : Days w v l) (hn : l.length ≤ 1000) : Calls Try.prog 20 #[v] w (GivesD w l) := by
  rcases hl with ⟨rfl, a', cap, rfl, ha⟩ | ⟨h0, blk, o, cap, rfl, hlt, hcap, hcell⟩
  · go_enter Try.func20, Try.ntmps20
    go_wp2
    go_rounds 1
    go_wp2
    go_ret
    exact ⟨_, rfl, OwnD.nil _ _, by (repeat' (first | assumption | exact Below.refl _ _ | apply Below.next_alloc | apply Below.drew | (apply Below.next; rotate_left; assumption)))⟩
  · have HC := Lib.hid hcell
    clear hcell
    go_enter Try.func20, Try.ntmps20
    go_wp2
    go_loopw [3, 4] (fun u i wr => ∃ k : Nat, k ≤ l.length ∧ i = .int .i64 k ∧ OwnD wr w.heap.size u (l.take k) ∧ Hid (Below w.heap.size w wr)) (fun _ i _ => l.length - (intOf i).toNat)
    case atStart => exact ⟨0, by omega, rfl, OwnD.nil _ _, Lib.hid (Below.refl _ _)⟩
    case round =>
      obtain ⟨k, hk0, rfl, hown, hB⟩ := hrel
      replace hown := Lib.hid hown
      by_cases hk : k < l.length
      · obtain ⟨c1, c2⟩ := days_cells hlt HC.out hB.out k hk
        have i2 : (k : Int) < (l.length : Int) := by omega
        have i3 : (0 : Int) ≤ (k : Int) := by omega
        have ht := List.take_succ_eq_append_getElem hk
        have hlen : (l.take k).length ≤ 1000000 := by rw [List.length_take]; omega
        obtain ⟨m, hm⟩ : ∃ m, l[k] = m := ⟨_, rfl⟩
        rw [hm] at c1 c2 ht
        clear hm
        obtain ⟨p, q⟩ := m
        simp only at c1 c2
        replace ht := Lib.hid ht
        replace hlen := Lib.hid hlen
        go_wp2_with (at_builtin; refine push_day rfl _ _ rfl w.heap.size _ (l.take k) rfl hown.out rfl hlen.out hB.out.size ?_; intro v5 w5 hown5 hB5)
        go_roundw
        case rel => exact ⟨k + 1, by omega, by go_num, by rw [ht.out]; exact hown5, Lib.hid (hB.out.trans hB5)⟩
        case measure => simp [intOf]; omega
      · have ht := Lib.hid (show l.take k = l from List.take_of_length_le (by omega))
        go_wp2
        go_ret
        exact ⟨_, rfl, by rw [← ht.out]; exact hown.out, hB.out⟩
set_option maxHeartbeats 1000000 in
theorem ints_any {w : World} {v : Value} {l : List Int} (hl : Ints w v l) (hn : l.length ≤ 1000) : Calls Try.prog 19 #[v] w (Gives w l) := by
  obtain ⟨i0, hi, hz0, hz1, hz2⟩ := info_parts infoInt
  have ho := OwnI.nil w w.heap.size
  unfold OwnI at ho
  replace ho := Lib.hid ho
  rcases hl with ⟨rfl, a', cap, rfl, ha⟩ | ⟨h0, blk, o, cap, rfl, hlt, hcap, hcell⟩
  · rcases a' with _ | ad
    · obtain rfl := ha rfl
      clear ha
      go_enter Try.func19, Try.ntmps19
      go_wp2_with (at_builtin; refine wpList_append_own_none rfl _ _ _ rfl w.heap.size 3 i0 _ Try.underlying24 hi _ _ _ rfl ho.out rfl ?_)
      go_ret
      exact ⟨_, rfl, ho.out, Below.refl _ _⟩
    · clear ha
      go_enter Try.func19, Try.ntmps19
      go_wp2_with (at_builtin; refine wpList_append_own _ rfl _ _ _ rfl w.heap.size 3 i0 _ 1 8 Try.underlying24 hi hz0 hz1 hz2 rfl (by decide) _ _ _ rfl ho.out ad 0 cap [] rfl rfl (fun j u h => by simp at h) (by simp) (by decide) (by decide) (Nat.le_refl _) ?_; intro v5 w5 hown5 hg5 _)
      go_ret
      exact ⟨_, rfl, hown5, (Below.refl _ w).grown hg5 (Nat.le_refl _) (fun k hk => by cases hk)⟩
  · have HC := Lib.hid (show ∀ j u, (ic l)[j]? = some u → w.cell? ((⟨blk, o, none⟩ : Addr).add j) = some u from fun j u h => by
      unfold ic at h
      rw [List.getElem?_map] at h
      obtain ⟨z, hz, rfl⟩ := Option.map_eq_some_iff.1 h
      obtain ⟨hj, rfl⟩ := List.getElem?_eq_some_iff.1 hz
      have hadd : (⟨blk, o, none⟩ : Addr).add j = ⟨blk, o + j, none⟩ := by unfold Addr.add; split <;> simp_all
      rw [hadd]; exact hcell j hj)
    have h63 := Lib.hid (show 0 + l.length ≤ maxLen by unfold maxLen; omega)
    have hby := Lib.hid (show (0 + l.length) * 8 ≤ 140737488355328 by omega)
    have hone := Lib.hid (show ∀ u ∈ ic l, u.oneCell' = true from fun u hu => by unfold ic at hu; obtain ⟨z, _, rfl⟩ := List.mem_map.1 hu; rfl)
    have hicl := Lib.hid (show (ic l).length = l.length * 1 by rw [ic_length]; omega)
    clear hcell
    go_enter Try.func19, Try.ntmps19
    go_wp2_with (at_builtin; refine wpList_append_own _ rfl _ _ _ rfl w.heap.size 3 i0 _ 1 8 Try.underlying24 hi hz0 hz1 hz2 rfl (by decide) _ _ _ rfl ho.out ⟨blk, o, none⟩ l.length cap (ic l) rfl hicl.out HC.out hone.out h63.out hby.out (Nat.le_refl _) ?_; intro v5 w5 hown5 hg5 _)
    go_ret
    refine ⟨_, rfl, ?_, (Below.refl _ w).grown hg5 (Nat.le_refl _) (fun k hk => by cases hk)⟩
    have h := hown5
    rw [List.length_nil, Nat.zero_add] at h
    exact h
end Go.Proofs.Ytndicgfafdhieaa.Ra

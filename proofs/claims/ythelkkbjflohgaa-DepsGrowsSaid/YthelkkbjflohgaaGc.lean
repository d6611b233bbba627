/- The walks through what hangs on what, both sides (printed by gen_of.py). -/
import Derived.Test.YthelkkbjflohgaaGb
namespace Go.Proofs.Ythelkkbjflohgaa.Ds
open Go.RowKit Ut Gr

theorem of_yes {l : List (ByteArray × ByteArray)} {k : Nat} (h : k < l.length) {s : ByteArray} (hs : l[k].1 = s) : ofL (l.take (k + 1)) s = ofL (l.take k) s ++ [l[k].2] := by
  unfold ofL; rw [List.take_succ_eq_append_getElem h, List.filter_append, List.map_append]; simp [hs]
theorem of_no {l : List (ByteArray × ByteArray)} {k : Nat} (h : k < l.length) {s : ByteArray} (hs : ¬ l[k].1 = s) : ofL (l.take (k + 1)) s = ofL (l.take k) s := by
  unfold ofL; rw [List.take_succ_eq_append_getElem h, List.filter_append, List.map_append]; simp [hs]
theorem on_yes {l : List (ByteArray × ByteArray)} {k : Nat} (h : k < l.length) {s : ByteArray} (hs : l[k].2 = s) : onL (l.take (k + 1)) s = onL (l.take k) s ++ [l[k].1] := by
  unfold onL; rw [List.take_succ_eq_append_getElem h, List.filter_append, List.map_append]; simp [hs]
theorem on_no {l : List (ByteArray × ByteArray)} {k : Nat} (h : k < l.length) {s : ByteArray} (hs : ¬ l[k].2 = s) : onL (l.take (k + 1)) s = onL (l.take k) s := by
  unfold onL; rw [List.take_succ_eq_append_getElem h, List.filter_append, List.map_append]; simp [hs]
/-- the same where a box was laid ahead in the round -/
theorem push_str1 {ops : Array Oper} {rest : List Oper} {o : Oper} {a : Act} {Q : Exit → Act → World → Prop} {W : World} {o' : Obj} {T' : TypeId} {z : ByteArray} (hgd : o.guard = none) (s x : Operand)
    (ho : o.op = .call { callee := .builtin .append, args := #[s, x], argTypes := #[23, 23] }) (B : Nat) (v : Value) (l : List ByteArray) (hs : a.eval s = v) (hown : OwnS W B v l)
    (hx : a.eval x = .slice (some ⟨W.heap.size + 1, 0, none⟩) 1 1) (hn : l.length ≤ 1000000) (hB : B ≤ W.heap.size)
    (h : ∀ v' w', OwnS w' B v' (l ++ [z]) → Below B W w' → wpList Try.prog ops Q rest (a.put o.dst v') w') : wpList Try.prog ops Q (o :: rest) a ((W.alloc o').alloc (.cells #[.string z] T')) :=
  push_str hgd s x ho B v l hs (hown.below (Below.next_alloc (Below.refl _ _) _)) (hx.trans (by rw [World.size_alloc])) hn (by rw [World.size_alloc]; omega) fun v' w' h1 h2 => h v' w' h1 (((Below.refl B W).alloc hB _).trans h2)
theorem gives_s {w W : World} {v : Value} {l m : List ByteArray} (h : OwnS W w.heap.size v m) (hl : m = l) (hB : Below w.heap.size w W) : GivesS w l (.returned v) W := by subst hl; exact ⟨_, rfl, h, hB⟩
set_option maxHeartbeats 4000000 in
theorem of_any {w : World} {v : Value} {l : List (ByteArray × ByteArray)} (s : ByteArray) (hl : Edgs w v l) (hn : l.length ≤ 1000) : Calls Try.prog 17 #[v, .string s] w (GivesS w (ofL l s)) := by
  rcases hl with ⟨rfl, a', cap, rfl, -⟩ | ⟨h0, b, o, cap, rfl, hlt, hcap, hcell⟩
  · go_enter Try.func17, Try.ntmps17
    go_wp2
    refine wp_loop_rounds 1 ?_
    rw [rounds_succ]
    go_wp2
    go_ret
    exact ⟨_, rfl, OwnS.nil _ _, by (repeat' (first | assumption | exact Below.refl _ _ | apply Below.next_alloc | apply Below.drew | (apply Below.next; rotate_left; assumption)))⟩
  · have HC := Lib.hid hcell
    have hL := ofL_le l s
    clear hcell
    go_enter Try.func17, Try.ntmps17
    go_wp2
    go_loopw [5, 10] (fun v i wr => ∃ k : Nat, k ≤ l.length ∧ i = .int .i64 k ∧ OwnS wr w.heap.size v (ofL (l.take k) s) ∧ Hid (Below w.heap.size w wr)) (fun _ i _ => l.length - (intOf i).toNat)
    case atStart => exact ⟨0, by omega, rfl, OwnS.nil _ _, Lib.hid (Below.refl _ _)⟩
    case round =>
      obtain ⟨k, hk, rfl, hown, hB⟩ := hrel
      have hlen := ofL_le (l.take k) s
      rw [List.length_take] at hlen
      replace hown := Lib.hid hown
      by_cases hkl : k < l.length
      · have c0 := (hB.out.cell (p := ⟨b, o + k * 2, none⟩) hlt).trans (HC.out k hkl).1
        have c1 := (hB.out.cell (p := ⟨b, o + k * 2 + 1, none⟩) hlt).trans (HC.out k hkl).2
        have i2 : (k : Int) < (l.length : Int) := by omega
        have i3 : (0 : Int) ≤ (k : Int) := by omega
        by_cases he : l[k].1 = s
        · have hnext := Lib.hid (of_yes hkl he)
          rw [he] at c0
          clear he
          go_wp2_with (first
            | (at_builtin; refine push_str1 rfl _ _ rfl w.heap.size _ (ofL (l.take k) s) rfl hown.out rfl (by omega) hB.out.size ?_; intro v5 w5 hown5 hB5))
          go_roundw
          case rel => exact ⟨k + 1, by omega, by go_num, by rw [hnext.out]; exact hown5, Lib.hid (hB.out.trans hB5)⟩
          case measure => simp [intOf]; omega
        · have hnext := Lib.hid (of_no hkl he)
          have hq := eqS_no he
          clear he
          go_wp2
          go_roundw
          case rel => exact ⟨k + 1, by omega, by go_num, by rw [hnext.out]; exact hown.out.below (by (repeat' (first | assumption | exact Below.refl _ _ | apply Below.next_alloc | apply Below.drew | (apply Below.next; rotate_left; assumption)))), Lib.hid (Below.next hB.out (by (repeat' (first | assumption | exact Below.refl _ _ | apply Below.next_alloc | apply Below.drew | (apply Below.next; rotate_left; assumption)))))⟩
          case measure => simp [intOf]; omega
      · obtain rfl : k = l.length := by omega
        have hr := Lib.hid (show ofL (l.take l.length) s = ofL l s by rw [List.take_length])
        go_wp2
        go_ret
        exact gives_s hown.out hr.out hB.out
set_option maxHeartbeats 4000000 in
theorem on_any {w : World} {v : Value} {l : List (ByteArray × ByteArray)} (s : ByteArray) (hl : Edgs w v l) (hn : l.length ≤ 1000) : Calls Try.prog 19 #[v, .string s] w (GivesS w (onL l s)) := by
  rcases hl with ⟨rfl, a', cap, rfl, -⟩ | ⟨h0, b, o, cap, rfl, hlt, hcap, hcell⟩
  · go_enter Try.func19, Try.ntmps19
    go_wp2
    refine wp_loop_rounds 1 ?_
    rw [rounds_succ]
    go_wp2
    go_ret
    exact ⟨_, rfl, OwnS.nil _ _, by (repeat' (first | assumption | exact Below.refl _ _ | apply Below.next_alloc | apply Below.drew | (apply Below.next; rotate_left; assumption)))⟩
  · have HC := Lib.hid hcell
    have hL := onL_le l s
    clear hcell
    go_enter Try.func19, Try.ntmps19
    go_wp2
    go_loopw [5, 10] (fun v i wr => ∃ k : Nat, k ≤ l.length ∧ i = .int .i64 k ∧ OwnS wr w.heap.size v (onL (l.take k) s) ∧ Hid (Below w.heap.size w wr)) (fun _ i _ => l.length - (intOf i).toNat)
    case atStart => exact ⟨0, by omega, rfl, OwnS.nil _ _, Lib.hid (Below.refl _ _)⟩
    case round =>
      obtain ⟨k, hk, rfl, hown, hB⟩ := hrel
      have hlen := onL_le (l.take k) s
      rw [List.length_take] at hlen
      replace hown := Lib.hid hown
      by_cases hkl : k < l.length
      · have c0 := (hB.out.cell (p := ⟨b, o + k * 2, none⟩) hlt).trans (HC.out k hkl).1
        have c1 := (hB.out.cell (p := ⟨b, o + k * 2 + 1, none⟩) hlt).trans (HC.out k hkl).2
        have i2 : (k : Int) < (l.length : Int) := by omega
        have i3 : (0 : Int) ≤ (k : Int) := by omega
        by_cases he : l[k].2 = s
        · have hnext := Lib.hid (on_yes hkl he)
          rw [he] at c1
          clear he
          go_wp2_with (first
            | (at_builtin; refine push_str1 rfl _ _ rfl w.heap.size _ (onL (l.take k) s) rfl hown.out rfl (by omega) hB.out.size ?_; intro v5 w5 hown5 hB5))
          go_roundw
          case rel => exact ⟨k + 1, by omega, by go_num, by rw [hnext.out]; exact hown5, Lib.hid (hB.out.trans hB5)⟩
          case measure => simp [intOf]; omega
        · have hnext := Lib.hid (on_no hkl he)
          have hq := eqS_no he
          clear he
          go_wp2
          go_roundw
          case rel => exact ⟨k + 1, by omega, by go_num, by rw [hnext.out]; exact hown.out.below (by (repeat' (first | assumption | exact Below.refl _ _ | apply Below.next_alloc | apply Below.drew | (apply Below.next; rotate_left; assumption)))), Lib.hid (Below.next hB.out (by (repeat' (first | assumption | exact Below.refl _ _ | apply Below.next_alloc | apply Below.drew | (apply Below.next; rotate_left; assumption)))))⟩
          case measure => simp [intOf]; omega
      · obtain rfl : k = l.length := by omega
        have hr := Lib.hid (show onL (l.take l.length) s = onL l s by rw [List.take_length])
        go_wp2
        go_ret
        exact gives_s hown.out hr.out hB.out
set_option maxHeartbeats 4000000 in
theorem rOf_any {w : World} {v : Value} {l : List (ByteArray × ByteArray)} (s : ByteArray) (hl : Edgs w v l) (hn : l.length ≤ 1000) : Calls Try.prog 18 #[v, .string s] w (GivesS w (ofL l s)) := by
  rcases hl with ⟨rfl, a', cap, rfl, -⟩ | ⟨h0, b, o, cap, rfl, hlt, hcap, hcell⟩
  · go_enter Try.func18, Try.ntmps18
    go_wp2
    refine wp_loop_rounds 1 ?_
    rw [rounds_succ]
    go_wp2
    go_ret
    exact ⟨_, rfl, OwnS.nil _ _, by (repeat' (first | assumption | exact Below.refl _ _ | apply Below.next_alloc | apply Below.drew | (apply Below.next; rotate_left; assumption)))⟩
  · have HC := Lib.hid hcell
    have hL := ofL_le l s
    clear hcell
    go_enter Try.func18, Try.ntmps18
    go_wp2
    go_loopw [5, 6] (fun v i wr => ∃ k : Nat, k ≤ l.length ∧ i = .int .i64 k ∧ OwnS wr w.heap.size v (ofL (l.take k) s) ∧ Hid (Below w.heap.size w wr)) (fun _ i _ => l.length - (intOf i).toNat)
    case atStart => exact ⟨0, by omega, rfl, OwnS.nil _ _, Lib.hid (Below.refl _ _)⟩
    case round =>
      obtain ⟨k, hk, rfl, hown, hB⟩ := hrel
      have hlen := ofL_le (l.take k) s
      rw [List.length_take] at hlen
      replace hown := Lib.hid hown
      by_cases hkl : k < l.length
      · have c0 := (hB.out.cell (p := ⟨b, o + k * 2, none⟩) hlt).trans (HC.out k hkl).1
        have c1 := (hB.out.cell (p := ⟨b, o + k * 2 + 1, none⟩) hlt).trans (HC.out k hkl).2
        have i2 : (k : Int) < (l.length : Int) := by omega
        have i3 : (0 : Int) ≤ (k : Int) := by omega
        by_cases he : l[k].1 = s
        · have hnext := Lib.hid (of_yes hkl he)
          rw [he] at c0
          clear he
          go_wp2_with (first
            | (at_builtin; refine push_str rfl _ _ rfl w.heap.size _ (ofL (l.take k) s) rfl hown.out rfl (by omega) hB.out.size ?_; intro v5 w5 hown5 hB5))
          go_roundw
          case rel => exact ⟨k + 1, by omega, by go_num, by rw [hnext.out]; exact hown5, Lib.hid (hB.out.trans hB5)⟩
          case measure => simp [intOf]; omega
        · have hnext := Lib.hid (of_no hkl he)
          have hq := eqS_no he
          clear he
          go_wp2
          go_roundw
          case rel => exact ⟨k + 1, by omega, by go_num, by rw [hnext.out]; exact hown.out.below (by (repeat' (first | assumption | exact Below.refl _ _ | apply Below.next_alloc | apply Below.drew | (apply Below.next; rotate_left; assumption)))), Lib.hid (Below.next hB.out (by (repeat' (first | assumption | exact Below.refl _ _ | apply Below.next_alloc | apply Below.drew | (apply Below.next; rotate_left; assumption)))))⟩
          case measure => simp [intOf]; omega
      · obtain rfl : k = l.length := by omega
        have hr := Lib.hid (show ofL (l.take l.length) s = ofL l s by rw [List.take_length])
        go_wp2
        go_ret
        exact gives_s hown.out hr.out hB.out
set_option maxHeartbeats 4000000 in
theorem rOn_any {w : World} {v : Value} {l : List (ByteArray × ByteArray)} (s : ByteArray) (hl : Edgs w v l) (hn : l.length ≤ 1000) : Calls Try.prog 20 #[v, .string s] w (GivesS w (onL l s)) := by
  rcases hl with ⟨rfl, a', cap, rfl, -⟩ | ⟨h0, b, o, cap, rfl, hlt, hcap, hcell⟩
  · go_enter Try.func20, Try.ntmps20
    go_wp2
    refine wp_loop_rounds 1 ?_
    rw [rounds_succ]
    go_wp2
    go_ret
    exact ⟨_, rfl, OwnS.nil _ _, by (repeat' (first | assumption | exact Below.refl _ _ | apply Below.next_alloc | apply Below.drew | (apply Below.next; rotate_left; assumption)))⟩
  · have HC := Lib.hid hcell
    have hL := onL_le l s
    clear hcell
    go_enter Try.func20, Try.ntmps20
    go_wp2
    go_loopw [5, 6] (fun v i wr => ∃ k : Nat, k ≤ l.length ∧ i = .int .i64 k ∧ OwnS wr w.heap.size v (onL (l.take k) s) ∧ Hid (Below w.heap.size w wr)) (fun _ i _ => l.length - (intOf i).toNat)
    case atStart => exact ⟨0, by omega, rfl, OwnS.nil _ _, Lib.hid (Below.refl _ _)⟩
    case round =>
      obtain ⟨k, hk, rfl, hown, hB⟩ := hrel
      have hlen := onL_le (l.take k) s
      rw [List.length_take] at hlen
      replace hown := Lib.hid hown
      by_cases hkl : k < l.length
      · have c0 := (hB.out.cell (p := ⟨b, o + k * 2, none⟩) hlt).trans (HC.out k hkl).1
        have c1 := (hB.out.cell (p := ⟨b, o + k * 2 + 1, none⟩) hlt).trans (HC.out k hkl).2
        have i2 : (k : Int) < (l.length : Int) := by omega
        have i3 : (0 : Int) ≤ (k : Int) := by omega
        by_cases he : l[k].2 = s
        · have hnext := Lib.hid (on_yes hkl he)
          rw [he] at c1
          clear he
          go_wp2_with (first
            | (at_builtin; refine push_str rfl _ _ rfl w.heap.size _ (onL (l.take k) s) rfl hown.out rfl (by omega) hB.out.size ?_; intro v5 w5 hown5 hB5))
          go_roundw
          case rel => exact ⟨k + 1, by omega, by go_num, by rw [hnext.out]; exact hown5, Lib.hid (hB.out.trans hB5)⟩
          case measure => simp [intOf]; omega
        · have hnext := Lib.hid (on_no hkl he)
          have hq := eqS_no he
          clear he
          go_wp2
          go_roundw
          case rel => exact ⟨k + 1, by omega, by go_num, by rw [hnext.out]; exact hown.out.below (by (repeat' (first | assumption | exact Below.refl _ _ | apply Below.next_alloc | apply Below.drew | (apply Below.next; rotate_left; assumption)))), Lib.hid (Below.next hB.out (by (repeat' (first | assumption | exact Below.refl _ _ | apply Below.next_alloc | apply Below.drew | (apply Below.next; rotate_left; assumption)))))⟩
          case measure => simp [intOf]; omega
      · obtain rfl : k = l.length := by omega
        have hr := Lib.hid (show onL (l.take l.length) s = onL l s by rw [List.take_length])
        go_wp2
        go_ret
        exact gives_s hown.out hr.out hB.out
end Go.Proofs.Ythelkkbjflohgaa.Ds

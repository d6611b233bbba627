/- The walks through Reach, Acyclic and slices.IndexFunc over edges (printed by gen_func.py). -/
import Derived.Test.YthelkkbjflohgaaGf
namespace Go.Proofs.Ythelkkbjflohgaa.Ds
open Go.RowKit Ut Gr Go.Maps
set_option maxHeartbeats 2000000 in
theorem reach_any {w : World} {v : Value} {l : List (ByteArray × ByteArray)} (s t : ByteArray) (hl : Edgs w v l) (hn : l.length ≤ 1000) (hz : Short l) (ht : t.size ≤ maxLen) : Calls Try.prog 13 #[v, .string s, .string t] w fun e w' => e = .returned (.bool (way l s t)) ∧ Below w.heap.size w w' := by
  have FV := Lib.hid (visit_any s hl hn hz)
  clear hl hz
  cases h : way l s t
  · have h := Lib.hid (way_no.1 h)
    go_enter Try.func13, Try.ntmps13
    go_wp2_with (first
      | (go_at_call 37; (with_reducible refine FV.out.mono ?_); rintro e w1 ⟨S, rfl, hM, hS, hB⟩; have hS := Lib.hid (isIn_no (S := S) (x := t) (fun k => h.out ((hS t).1 k))); have hM := Lib.hid hM)
      | (at_lookup; refine look_set rfl _ _ rfl w.heap.size 1000 S rfl hM.out t rfl ht 0 (by rw [hS.out]; rfl) ?_))
    go_ret
    exact ⟨rfl, hB⟩
  · have h := Lib.hid (way_iff.1 h)
    go_enter Try.func13, Try.ntmps13
    go_wp2_with (first
      | (go_at_call 37; (with_reducible refine FV.out.mono ?_); rintro e w1 ⟨S, rfl, hM, hS, hB⟩; have hS := Lib.hid (isIn_yes (S := S) (x := t) ((hS t).2 h.out)); have hM := Lib.hid hM)
      | (at_lookup; refine look_set rfl _ _ rfl w.heap.size 1000 S rfl hM.out t rfl ht 1 (by rw [hS.out]; rfl) ?_))
    go_ret
    exact ⟨rfl, hB⟩
/-- does an edge close a circle? -/
noncomputable def loops (l : List (ByteArray × ByteArray)) (e : ByteArray × ByteArray) : Bool := decide (e.1 = e.2) || way l e.2 e.1
set_option maxHeartbeats 2000000 in
theorem acyc1_any {w : World} {v : Value} {l : List (ByteArray × ByteArray)} (b : Nat) (p q : ByteArray) (hc : w.cell? ⟨b, 0, none⟩ = some v) (hl : Edgs w v l) (hn : l.length ≤ 1000) (hz : Short l) (hp : p.size ≤ maxLen) :
    Calls Try.prog 39 #[.agg #[.string p, .string q], .pointer (some ⟨b, 0, none⟩)] w fun e w' => e = .returned (.bool (loops l (p, q))) ∧ Below w.heap.size w w' := by
  have hb := World.block_lt_of_cell? w _ hc
  by_cases he : p = q
  · have hr := Lib.hid (show loops l (p, q) = true by unfold loops; simp [he])
    subst he
    clear hl hz
    go_enter Try.func39, Try.ntmps39
    go_wp2
    go_ret
    exact ⟨by rw [hr.out]; rfl, by (repeat' (first | assumption | exact Below.refl _ _ | apply Below.next_alloc | apply Below.drew | (apply Below.next; rotate_left; assumption)))⟩
  · have hr := Lib.hid (show loops l (p, q) = way l q p by unfold loops; simp [he])
    have hq := eqS_no he
    have FR := Lib.hid (fun W (hB : Below w.heap.size w W) => reach_any (w := W) q p (hl.below hB) hn hz hp)
    obtain ⟨a, c, rfl⟩ := hl.slice
    have hc2 : ∀ o, (w.alloc o).cell? ⟨b, 0, none⟩ = some (.slice a l.length c) := fun o => (World.cell?_alloc_lt w o ⟨b, 0, none⟩ hb).trans hc
    clear hl hz he
    generalize way l q p = r at *
    go_enter Try.func39, Try.ntmps39
    go_wp2_with (first
      | (go_at_call 13; (with_reducible refine (FR.out _ (by (repeat' (first | assumption | exact Below.refl _ _ | apply Below.next_alloc | apply Below.drew | (apply Below.next; rotate_left; assumption))))).mono ?_); rintro e w1 ⟨rfl, hB⟩))
    go_ret
    exact ⟨by rw [hr.out]; rfl, next_allocs hB⟩
set_option maxHeartbeats 4000000 in
theorem indexA_any {w : World} {v : Value} {l : List (ByteArray × ByteArray)} (cb : Nat) (P : ByteArray × ByteArray → Bool) (hl : Edgs w v l) (hn : l.length ≤ 1000000) (hp : ∀ W, Below w.heap.size w W → ∀ p q, (p, q) ∈ l → Calls Try.prog 39 #[.agg #[.string p, .string q], .pointer (some ⟨cb, 0, none⟩)] W fun e W' => e = .returned (.bool (P (p, q))) ∧ Below W.heap.size W W') :
    Calls Try.prog 47 #[v, .func (.func 39) #[] #[.pointer (some ⟨cb, 0, none⟩)]] w fun e w' => e = .returned (.int .i64 (idxF P l)) ∧ Below w.heap.size w w' := by
  rcases hl with ⟨rfl, a, cap, rfl, ha⟩ | ⟨h0, b, o, cap, rfl, hlt, hcap, hcell⟩
  · go_enter Try.func47, Try.ntmps47
    go_wp2
    refine wp_loop_rounds 1 ?_
    rw [rounds_succ]
    go_wp2
    go_ret
    exact ⟨by rw [idx_none (by simp)]; rfl, by (repeat' (first | assumption | exact Below.refl _ _ | apply Below.next_alloc | apply Below.drew | (apply Below.next; rotate_left; assumption)))⟩
  · have HC := Lib.hid hcell
    have HP := Lib.hid hp
    clear hcell hp
    go_enter Try.func47, Try.ntmps47
    go_wp2
    go_loopw [8] (fun i wr => ∃ k : Nat, k ≤ l.length ∧ i = .int .i64 k ∧ Hid ((l.take k).any P = false) ∧ Below w.heap.size w wr) (fun i _ => l.length - (intOf i).toNat)
    case atStart => exact ⟨0, by omega, rfl, Lib.hid (by simp), Below.refl _ _⟩
    case round =>
      obtain ⟨k, k1, rfl, hx, hB⟩ := hrel
      by_cases hk : k < l.length
      · obtain ⟨c1, c2⟩ := HC.out k hk
        have c1 := (hB.cell (p := ⟨b, o + k * 2, none⟩) hlt).trans c1
        have c2 := (hB.cell (p := ⟨b, o + k * 2 + 1, none⟩) hlt).trans c2
        have i2 : (k : Int) < (l.length : Int) := by omega
        have i3 : (0 : Int) ≤ (k : Int) := by omega
        obtain ⟨n, hn'⟩ : ∃ n, l[k] = n := ⟨_, rfl⟩
        have hmem : l[k] ∈ l := List.getElem_mem hk
        rw [hn'] at c1 c2 hmem
        have hany := Lib.hid (show P n = true → idxF P l = k from fun h => idx_at hk hx.out (by rw [hn']; exact h))
        have hnext := Lib.hid (show P n = false → (l.take (k + 1)).any P = false from fun h => by rw [any_snoc hk, hx.out, hn', h]; rfl)
        clear hn' hx
        obtain ⟨p, q⟩ := n
        simp only at c1 c2
        have F := Lib.hid (HP.out wr hB p q hmem)
        clear hmem
        generalize hPb : P (p, q) = t at F
        cases t
        · have hx2 := Lib.hid (hnext.out hPb)
          clear hPb
          go_wp2_with (go_at_call 39; (with_reducible refine F.out.mono ?_); rintro e w1 ⟨rfl, hB1⟩)
          go_roundw
          case rel => exact ⟨k + 1, by omega, by go_num, hx2, Below.next hB hB1⟩
          case measure => simp [intOf]; omega
        · have hx2 := Lib.hid (hany.out hPb)
          clear hPb
          go_wp2_with (go_at_call 39; (with_reducible refine F.out.mono ?_); rintro e w1 ⟨rfl, hB1⟩)
          go_ret
          exact ⟨by rw [hx2.out]; rfl, Below.next hB hB1⟩
      · have hm := Lib.hid (show l.any P = false by have := hx.out; rwa [List.take_of_length_le (by omega)] at this)
        go_wp2
        go_ret
        exact ⟨by rw [idx_none hm.out]; rfl, hB⟩
set_option maxHeartbeats 4000000 in
theorem indexD_any {w : World} {v : Value} {l : List (ByteArray × ByteArray)} (cb : Nat) (P : ByteArray × ByteArray → Bool) (hl : Edgs w v l) (hn : l.length ≤ 1000000) (hp : ∀ W, Below w.heap.size w W → ∀ p q, (p, q) ∈ l → Calls Try.prog 44 #[.agg #[.string p, .string q], .pointer (some ⟨cb, 0, none⟩)] W fun e W' => e = .returned (.bool (P (p, q))) ∧ Below W.heap.size W W') :
    Calls Try.prog 47 #[v, .func (.func 44) #[] #[.pointer (some ⟨cb, 0, none⟩)]] w fun e w' => e = .returned (.int .i64 (idxF P l)) ∧ Below w.heap.size w w' := by
  rcases hl with ⟨rfl, a, cap, rfl, ha⟩ | ⟨h0, b, o, cap, rfl, hlt, hcap, hcell⟩
  · go_enter Try.func47, Try.ntmps47
    go_wp2
    refine wp_loop_rounds 1 ?_
    rw [rounds_succ]
    go_wp2
    go_ret
    exact ⟨by rw [idx_none (by simp)]; rfl, by (repeat' (first | assumption | exact Below.refl _ _ | apply Below.next_alloc | apply Below.drew | (apply Below.next; rotate_left; assumption)))⟩
  · have HC := Lib.hid hcell
    have HP := Lib.hid hp
    clear hcell hp
    go_enter Try.func47, Try.ntmps47
    go_wp2
    go_loopw [8] (fun i wr => ∃ k : Nat, k ≤ l.length ∧ i = .int .i64 k ∧ Hid ((l.take k).any P = false) ∧ Below w.heap.size w wr) (fun i _ => l.length - (intOf i).toNat)
    case atStart => exact ⟨0, by omega, rfl, Lib.hid (by simp), Below.refl _ _⟩
    case round =>
      obtain ⟨k, k1, rfl, hx, hB⟩ := hrel
      by_cases hk : k < l.length
      · obtain ⟨c1, c2⟩ := HC.out k hk
        have c1 := (hB.cell (p := ⟨b, o + k * 2, none⟩) hlt).trans c1
        have c2 := (hB.cell (p := ⟨b, o + k * 2 + 1, none⟩) hlt).trans c2
        have i2 : (k : Int) < (l.length : Int) := by omega
        have i3 : (0 : Int) ≤ (k : Int) := by omega
        obtain ⟨n, hn'⟩ : ∃ n, l[k] = n := ⟨_, rfl⟩
        have hmem : l[k] ∈ l := List.getElem_mem hk
        rw [hn'] at c1 c2 hmem
        have hany := Lib.hid (show P n = true → idxF P l = k from fun h => idx_at hk hx.out (by rw [hn']; exact h))
        have hnext := Lib.hid (show P n = false → (l.take (k + 1)).any P = false from fun h => by rw [any_snoc hk, hx.out, hn', h]; rfl)
        clear hn' hx
        obtain ⟨p, q⟩ := n
        simp only at c1 c2
        have F := Lib.hid (HP.out wr hB p q hmem)
        clear hmem
        generalize hPb : P (p, q) = t at F
        cases t
        · have hx2 := Lib.hid (hnext.out hPb)
          clear hPb
          go_wp2_with (go_at_call 44; (with_reducible refine F.out.mono ?_); rintro e w1 ⟨rfl, hB1⟩)
          go_roundw
          case rel => exact ⟨k + 1, by omega, by go_num, hx2, Below.next hB hB1⟩
          case measure => simp [intOf]; omega
        · have hx2 := Lib.hid (hany.out hPb)
          clear hPb
          go_wp2_with (go_at_call 44; (with_reducible refine F.out.mono ?_); rintro e w1 ⟨rfl, hB1⟩)
          go_ret
          exact ⟨by rw [hx2.out]; rfl, Below.next hB hB1⟩
      · have hm := Lib.hid (show l.any P = false by have := hx.out; rwa [List.take_of_length_le (by omega)] at this)
        go_wp2
        go_ret
        exact ⟨by rw [idx_none hm.out]; rfl, hB⟩
set_option maxHeartbeats 4000000 in
theorem indexO_any {w : World} {v : Value} {l : List (ByteArray)} (cb mb : Nat) (P : ByteArray → Bool) (hl : Strs w v l) (hn : l.length ≤ 1000000) (hp : ∀ W, Below w.heap.size w W → ∀ p, p ∈ l → Calls Try.prog 32 #[.string p, .pointer (some ⟨cb, 0, none⟩), .pointer (some ⟨mb, 0, none⟩)] W fun e W' => e = .returned (.bool (P p)) ∧ Below W.heap.size W W') :
    Calls Try.prog 31 #[v, .func (.func 32) #[] #[.pointer (some ⟨cb, 0, none⟩), .pointer (some ⟨mb, 0, none⟩)]] w fun e w' => e = .returned (.int .i64 (idxF P l)) ∧ Below w.heap.size w w' := by
  rcases hl with ⟨rfl, a, cap, rfl, ha⟩ | ⟨h0, b, o, cap, rfl, hlt, hcap, hcell⟩
  · go_enter Try.func31, Try.ntmps31
    go_wp2
    refine wp_loop_rounds 1 ?_
    rw [rounds_succ]
    go_wp2
    go_ret
    exact ⟨by rw [idx_none (by simp)]; rfl, by (repeat' (first | assumption | exact Below.refl _ _ | apply Below.next_alloc | apply Below.drew | (apply Below.next; rotate_left; assumption)))⟩
  · have HC := Lib.hid hcell
    have HP := Lib.hid hp
    clear hcell hp
    go_enter Try.func31, Try.ntmps31
    go_wp2
    go_loopw [8] (fun i wr => ∃ k : Nat, k ≤ l.length ∧ i = .int .i64 k ∧ Hid ((l.take k).any P = false) ∧ Below w.heap.size w wr) (fun i _ => l.length - (intOf i).toNat)
    case atStart => exact ⟨0, by omega, rfl, Lib.hid (by simp), Below.refl _ _⟩
    case round =>
      obtain ⟨k, k1, rfl, hx, hB⟩ := hrel
      by_cases hk : k < l.length
      · have c1 := (hB.cell (p := ⟨b, o + k, none⟩) hlt).trans (HC.out k hk)
        have i2 : (k : Int) < (l.length : Int) := by omega
        have i3 : (0 : Int) ≤ (k : Int) := by omega
        obtain ⟨n, hn'⟩ : ∃ n, l[k] = n := ⟨_, rfl⟩
        have hmem : l[k] ∈ l := List.getElem_mem hk
        rw [hn'] at c1 hmem
        have hany := Lib.hid (show P n = true → idxF P l = k from fun h => idx_at hk hx.out (by rw [hn']; exact h))
        have hnext := Lib.hid (show P n = false → (l.take (k + 1)).any P = false from fun h => by rw [any_snoc hk, hx.out, hn', h]; rfl)
        clear hn' hx
        skip
        have F := Lib.hid (HP.out wr hB n hmem)
        clear hmem
        generalize hPb : P n = t at F
        cases t
        · have hx2 := Lib.hid (hnext.out hPb)
          clear hPb
          go_wp2_with (go_at_call 32; (with_reducible refine F.out.mono ?_); rintro e w1 ⟨rfl, hB1⟩)
          go_roundw
          case rel => exact ⟨k + 1, by omega, by go_num, hx2, Below.next hB hB1⟩
          case measure => simp [intOf]; omega
        · have hx2 := Lib.hid (hany.out hPb)
          clear hPb
          go_wp2_with (go_at_call 32; (with_reducible refine F.out.mono ?_); rintro e w1 ⟨rfl, hB1⟩)
          go_ret
          exact ⟨by rw [hx2.out]; rfl, Below.next hB hB1⟩
      · have hm := Lib.hid (show l.any P = false by have := hx.out; rwa [List.take_of_length_le (by omega)] at this)
        go_wp2
        go_ret
        exact ⟨by rw [idx_none hm.out]; rfl, hB⟩
theorem idx_any {α : Type} {P : α → Bool} {l : List α} : decide (0 ≤ idxF P l) = l.any P := by
  rcases idx_spec (P := P) (l := l) with ⟨h1, h2⟩ | ⟨k, hk, h1, h2, _⟩
  · rw [h1, h2]; rfl
  · rw [h1, decide_eq_true (by omega)]
    exact (List.any_eq_true.2 ⟨_, List.getElem_mem hk, h2⟩).symm
theorem idx_bd {α : Type} {P : α → Bool} {l : List α} : -1 ≤ idxF P l ∧ idxF P l < l.length := by
  rcases idx_spec (P := P) (l := l) with ⟨h1, _⟩ | ⟨k, hk, h1, _, _⟩ <;> rw [h1] <;> omega
theorem containsA_any {w : World} {v : Value} {l : List (ByteArray × ByteArray)} (cb : Nat) (P : ByteArray × ByteArray → Bool) (hl : Edgs w v l) (hn : l.length ≤ 1000000) (hp : ∀ W, Below w.heap.size w W → ∀ p q, (p, q) ∈ l → Calls Try.prog 39 #[.agg #[.string p, .string q], .pointer (some ⟨cb, 0, none⟩)] W fun e W' => e = .returned (.bool (P (p, q))) ∧ Below W.heap.size W W') :
    Calls Try.prog 38 #[v, .func (.func 39) #[] #[.pointer (some ⟨cb, 0, none⟩)]] w fun e w' => e = .returned (.bool (l.any P)) ∧ Below w.heap.size w w' := by
  have F := Lib.hid (indexA_any cb P hl hn hp)
  obtain ⟨a, c, rfl⟩ := hl.slice
  have h1 := idx_any (P := P) (l := l)
  clear hl hp
  generalize idxF P l = i at *
  generalize l.any P = r at *
  go_enter Try.func38, Try.ntmps38
  go_wp2_with (first | (go_at_call 47; (with_reducible refine F.out.mono ?_); rintro e w' ⟨rfl, hB⟩))
  go_ret
  exact ⟨rfl, hB⟩
/-- has a graph no circle? -/
noncomputable def acyc (l : List (ByteArray × ByteArray)) : Bool := !(l.any (loops l))
set_option maxHeartbeats 2000000 in
theorem acyclic_any {w : World} {v : Value} {l : List (ByteArray × ByteArray)} (hl : Edgs w v l) (hn : l.length ≤ 1000) (hz : Short l) : Calls Try.prog 15 #[v] w fun e w' => e = .returned (.bool (acyc l)) ∧ Below w.heap.size w w' := by
  have hz1 : ∀ p q, (p, q) ∈ l → p.size ≤ maxLen := fun p q h => by have := (hz _ h).1; unfold maxLen; simp only at this; omega
  have FC : ∀ W, Below (w.alloc (.cells #[v] 28)).heap.size (w.alloc (.cells #[v] 28)) W → Calls Try.prog 38 #[v, .func (.func 39) #[] #[.pointer (some ⟨w.heap.size, 0, none⟩)]] W fun e w' => e = .returned (.bool (l.any (loops l))) ∧ Below W.heap.size W w' := fun W hB => by
    have hc : W.cell? ⟨w.heap.size, 0, none⟩ = some v := (hB.cell (p := ⟨w.heap.size, 0, none⟩) (by rw [World.size_alloc]; exact Nat.lt_succ_self _)).trans ((World.cell?_alloc_new w _ _ 0).trans rfl)
    have hlt : w.heap.size < W.heap.size := by have := hB.size; rw [World.size_alloc] at this; omega
    have hlW := hl.below (next_allocs hB)
    exact containsA_any w.heap.size (loops l) hlW (by omega) fun W2 hB2 p q hpq => acyc1_any w.heap.size p q ((hB2.cell (p := ⟨w.heap.size, 0, none⟩) hlt).trans hc) (hlW.below hB2) hn hz (hz1 p q hpq)
  obtain ⟨a, c, rfl⟩ := hl.slice
  replace FC := Lib.hid FC
  unfold acyc
  clear hl hz hz1
  generalize l.any (loops l) = r at *
  go_enter Try.func15, Try.ntmps15
  go_wp2_with (first
    | (go_at_call 38; (with_reducible refine (FC.out _ (by (repeat' (first | assumption | exact Below.refl _ _ | apply Below.next_alloc | apply Below.drew | (apply Below.next; rotate_left; assumption))))).mono ?_); rintro e w1 ⟨rfl, hB⟩))
  go_ret
  exact ⟨rfl, next_allocs hB⟩
end Go.Proofs.Ythelkkbjflohgaa.Ds

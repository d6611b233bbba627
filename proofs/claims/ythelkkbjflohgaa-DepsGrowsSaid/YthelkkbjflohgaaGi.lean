/- The walks through slices.Clone and DeleteFunc over edges, and through Drop. -/
import Derived.Test.YthelkkbjflohgaaGh
namespace Go.Proofs.Ythelkkbjflohgaa.Ds
open Go.RowKit Ut Gr Go.Maps
set_option maxHeartbeats 1000000 in
theorem clone_any {w : World} {v : Value} {l : List (ByteArray × ByteArray)} (hl : Edgs w v l) (h0 : 0 < l.length) (hn : l.length ≤ 1000) : Calls Try.prog 43 #[v] w (GivesE 44 w l) := by
  rcases hl with ⟨rfl, _⟩ | ⟨_, b, of, cap, rfl, hlt, hcap, hcell⟩
  · simp at h0
  have hnil := fun W => Lib.run_eql_slice_nil (P := Try.prog) W 28
  have hown0 : OwnE 44 (w.alloc (.cells #[] 44)) w.heap.size (.slice (some ⟨w.heap.size, 0, none⟩) 0 0) [] := World.ownsRow_lit w #[] 0 (Nat.le_refl _) (by unfold maxLen; omega) rfl
  have hB0 : Below w.heap.size w (w.alloc (.cells #[] 44)) := (Below.refl _ _).alloc (Nat.le_refl _) _
  have hsrc := Lib.hid (show Edgs (w.alloc (.cells #[] 44)) (.slice (some ⟨b, of, none⟩) l.length cap) l from (show Edgs w _ l from .inr ⟨h0, b, of, cap, rfl, hlt, hcap, hcell⟩).below hB0)
  replace hown0 := Lib.hid hown0
  replace hB0 := Lib.hid hB0
  clear hcell
  go_enter Try.func43, Try.ntmps43
  go_wp2_with (first
    | (at_builtin; refine app_edges infoE Try.underlying28 rfl _ _ rfl w.heap.size _ [] rfl hown0.out _ l rfl hsrc.out (by simp; omega) hB0.out.size ?_; intro v5 w5 hown5 hB5))
  go_ret
  exact ⟨_, rfl, hown5, hB0.out.trans hB5⟩
/-- the row of a slice out of which edges are taken: F stands at its head, what stands from the j-th on stands there still -/
def RowD (w : World) (g j : Nat) (l F : List (ByteArray × ByteArray)) : Prop :=
  (∀ k (h : k < F.length), w.cell? ⟨g, k * 2, none⟩ = some (.string F[k].1) ∧ w.cell? ⟨g, k * 2 + 1, none⟩ = some (.string F[k].2)) ∧
  (∀ k (h : k < l.length), j ≤ k → w.cell? ⟨g, k * 2, none⟩ = some (.string l[k].1) ∧ w.cell? ⟨g, k * 2 + 1, none⟩ = some (.string l[k].2)) ∧
  (∀ m, m < l.length * 2 → (w.cell? ⟨g, m, none⟩).isSome = true) ∧ (∀ m, w.frozen? ⟨g, m, none⟩ = false) ∧ g < w.heap.size
theorem RowD.later {w W : World} {g j : Nat} {l F : List (ByteArray × ByteArray)} (h : RowD w g j l F) (hB : Below w.heap.size w W) : RowD W g j l F := by
  have k : ∀ m, W.cell? ⟨g, m, none⟩ = w.cell? ⟨g, m, none⟩ := fun m => hB.cell (p := ⟨g, m, none⟩) h.2.2.2.2
  refine ⟨fun i hi => ?_, fun i hi hj => ?_, fun m hm => ?_, fun m => (hB.frozen (p := ⟨g, m, none⟩) h.2.2.2.2).trans (h.2.2.2.1 m), Nat.lt_of_lt_of_le h.2.2.2.2 hB.size⟩
  · rw [k, k]; exact h.1 i hi
  · rw [k, k]; exact h.2.1 i hi hj
  · rw [k]; exact h.2.2.1 m hm
theorem RowD.skip {w : World} {g j : Nat} {l F : List (ByteArray × ByteArray)} (h : RowD w g j l F) : RowD w g (j + 1) l F := ⟨h.1, fun k hk hj => h.2.1 k hk (by omega), h.2.2⟩
theorem RowD.store {w : World} {g j : Nat} {l F : List (ByteArray × ByteArray)} (h : RowD w g j l F) (hj : j < l.length) (hF : F.length ≤ j) :
    RowD ((w.setCell ⟨g, F.length * 2, none⟩ (.string l[j].1)).setCell ⟨g, F.length * 2 + 1, none⟩ (.string l[j].2)) g (j + 1) l (F ++ [l[j]]) := by
  have ne : ∀ {m k : Nat}, m ≠ k → (⟨g, k, none⟩ : Addr) ≠ ⟨g, m, none⟩ := fun h e => h (by injection e with _ e; exact e.symm)
  have o : ∀ m, m ≠ F.length * 2 → m ≠ F.length * 2 + 1 → ((w.setCell ⟨g, F.length * 2, none⟩ (.string l[j].1)).setCell ⟨g, F.length * 2 + 1, none⟩ (.string l[j].2)).cell? ⟨g, m, none⟩ = w.cell? ⟨g, m, none⟩ := fun m h1 h2 => by
    rw [World.cell?_setCell_other _ _ _ _ (ne h2), World.cell?_setCell_other _ _ _ _ (ne h1)]
  have s0 : ((w.setCell ⟨g, F.length * 2, none⟩ (.string l[j].1)).setCell ⟨g, F.length * 2 + 1, none⟩ (.string l[j].2)).cell? ⟨g, F.length * 2, none⟩ = some (.string l[j].1) := by
    rw [World.cell?_setCell_other _ _ _ _ (ne (by omega))]
    exact World.cell?_setCell_same' _ _ _ (h.2.2.1 _ (by omega))
  have s1 : ((w.setCell ⟨g, F.length * 2, none⟩ (.string l[j].1)).setCell ⟨g, F.length * 2 + 1, none⟩ (.string l[j].2)).cell? ⟨g, F.length * 2 + 1, none⟩ = some (.string l[j].2) := by
    refine World.cell?_setCell_same' _ _ _ ?_
    rw [World.cell?_setCell_other _ _ _ _ (ne (by omega))]
    exact h.2.2.1 _ (by omega)
  refine ⟨fun k hk => ?_, fun k hk hjk => ?_, fun m hm => ?_, fun m => ?_, ?_⟩
  · rw [List.length_append] at hk
    by_cases hkF : k < F.length
    · rw [o _ (by omega) (by omega), o _ (by omega) (by omega), List.getElem_append_left hkF]
      exact h.1 k hkF
    · obtain rfl : k = F.length := by simp at hk; omega
      rw [s0, s1, List.getElem_append_right (Nat.le_refl _)]
      simp
  · rw [o _ (by omega) (by omega), o _ (by omega) (by omega)]
    exact h.2.1 k hk (by omega)
  · by_cases h0 : m = F.length * 2
    · subst h0; rw [s0]; rfl
    · by_cases h1 : m = F.length * 2 + 1
      · subst h1; rw [s1]; rfl
      · rw [o _ h0 h1]; exact h.2.2.1 m hm
  · rw [World.frozen?_setCell, World.frozen?_setCell]; exact h.2.2.2.1 m
  · simpa using h.2.2.2.2
theorem RowD.start {w : World} {B g cap : Nat} {l : List (ByteArray × ByteArray)} {k : Nat} (h : OwnE 44 w B (.slice (some ⟨g, 0, none⟩) l.length cap) l) (h0 : 0 < l.length) : B ≤ g ∧ l.length ≤ cap ∧ cap ≤ maxLen ∧ RowD w g k l (l.take k) := by
  rcases h with ⟨hxl, ⟨hv, hn⟩ | ⟨g', cap', cur, hv, hb, hg, hc, hm, hs, ht⟩⟩
  · omega
  · obtain ⟨e1, _, e2⟩ := Value.slice.inj hv
    injection e1 with e1
    injection e1 with e1
    subst e1; subst e2
    have hlt := (Array.getElem?_eq_some_iff.1 hg).1
    have cell : ∀ m, w.cell? ⟨g, m, none⟩ = cur[m]? := fun m => by simp [World.cell?, hg]
    have cl : ∀ i (h : i < l.length), w.cell? ⟨g, i * 2, none⟩ = some (.string l[i].1) ∧ w.cell? ⟨g, i * 2 + 1, none⟩ = some (.string l[i].2) := fun i hi => by
      have ha := ec_at l i hi
      rw [← ht] at ha
      rw [List.getElem?_take, List.getElem?_take, if_pos (by omega), if_pos (by omega)] at ha
      rw [cell, cell]
      simpa using ha
    refine ⟨hb, hc, hm, fun i hi => ?_, fun i hi _ => cl i hi, fun m hm => ?_, fun m => ?_, hlt⟩
    · rw [List.length_take] at hi
      have := cl i (by omega)
      rwa [List.getElem_take]
    · rw [cell, Array.getElem?_eq_getElem (by omega)]; rfl
    · simp [World.frozen?, hg]
/-- n zero edges -/
def zsE (n : Nat) : List Value := (Builtin.zeroCells #[Value.string ByteArray.empty, Value.string ByteArray.empty] n).toList
theorem zsE_length (n : Nat) : (zsE n).length = n * 2 := by simp [zsE, Builtin.zeroCells]
theorem run_clear2 (w : World) (t e ty : TypeId) (ht : Try.prog.underlying t = some (.slice e)) (hv : ∀ w, (zeroValue e).run Try.prog w = .ok (.agg #[.string ByteArray.empty, .string ByteArray.empty]) w) (b o n c : Nat) (hn : 0 < n)
    (hc : ∀ j, j < n * 2 → (w.cell? ⟨b, o + j, none⟩).isSome = true) (hf : ∀ j, j < n * 2 → w.frozen? ⟨b, o + j, none⟩ = false) :
    (Builtin.clear_ #[t] ty #[.slice (some ⟨b, o, none⟩) n c]).run Try.prog w = .ok (.tuple #[]) (w.setCells b o (zsE n)) := by
  have hzl := zsE_length n
  have h1 : ∀ v ∈ zsE n, v.oneCell' = true := by
    intro v hv'
    simp only [zsE, Builtin.zeroCells, Array.toList_map, List.mem_map] at hv'
    obtain ⟨i, _, rfl⟩ := hv'
    show (#[Value.string ByteArray.empty, Value.string ByteArray.empty][i % 2]!).oneCell' = true
    rcases Nat.mod_two_eq_zero_or_one i with h | h <;> rw [h] <;> simp [Value.oneCell']
  have hst := run_storeCells_cells (P := Try.prog) b o (zsE n) 0 w (by rw [hzl]; simpa using hc) (by rw [hzl]; simpa using hf) h1
  simp only [Nat.add_zero] at hst
  unfold zsE at hst ⊢
  obtain ⟨m, rfl⟩ : ∃ m, n = m + 1 := ⟨n - 1, by omega⟩
  simp [Builtin.clear_, run_underlying ht, hv, Value.cells, hst]
theorem setCells_below {B b : Nat} {a : World} (hB : B ≤ b) : ∀ (zs : List Value) (W : World) (o : Nat), Below B a W → Below B a (W.setCells b o zs)
  | [], _, _, h => h
  | z :: zs, _, o, h => setCells_below hB zs _ (o + 1) (h.setCell hB z)
theorem zeroE (w : World) : (zeroValue 44).run Try.prog w = .ok (.agg #[.string ByteArray.empty, .string ByteArray.empty]) w := by kernel_rfl
/-- what Drop leaves -/
def rest (P : ByteArray × ByteArray → Bool) (l : List (ByteArray × ByteArray)) : List (ByteArray × ByteArray) := l.filter fun e => !P e
theorem rest_le (P : ByteArray × ByteArray → Bool) (l : List (ByteArray × ByteArray)) : (rest P l).length ≤ l.length := List.length_filter_le _ _
theorem rest_yes {P : ByteArray × ByteArray → Bool} {l : List (ByteArray × ByteArray)} {k : Nat} (hk : k < l.length) (h : P l[k] = true) : rest P (l.take (k + 1)) = rest P (l.take k) := by
  unfold rest; rw [List.take_succ_eq_append_getElem hk, List.filter_append]; simp [h]
theorem rest_no {P : ByteArray × ByteArray → Bool} {l : List (ByteArray × ByteArray)} {k : Nat} (hk : k < l.length) (h : P l[k] = false) : rest P (l.take (k + 1)) = rest P (l.take k) ++ [l[k]] := by
  unfold rest; rw [List.take_succ_eq_append_getElem hk, List.filter_append]; simp [h]
theorem rest_none {P : ByteArray × ByteArray → Bool} {l : List (ByteArray × ByteArray)} (h : l.any P = false) : rest P l = l := by
  unfold rest
  rw [List.filter_eq_self]
  rw [List.any_eq_false] at h
  intro x hx
  have := h x hx
  simpa using this
set_option maxHeartbeats 4000000 in
set_option maxRecDepth 100000 in
theorem delete_any {w : World} {B cb : Nat} {v : Value} {l : List (ByteArray × ByteArray)} (P : ByteArray × ByteArray → Bool) (hl : OwnE 44 w B v l) (hB0 : B ≤ w.heap.size) (hn : l.length ≤ 1000) (ha : l.any P = true)
    (hp : ∀ W, Below B w W → w.heap.size ≤ W.heap.size → ∀ p q, (p, q) ∈ l → Calls Try.prog 44 #[.agg #[.string p, .string q], .pointer (some ⟨cb, 0, none⟩)] W fun e W' => e = .returned (.bool (P (p, q))) ∧ Below W.heap.size W W') :
    Calls Try.prog 42 #[v, .func (.func 44) #[] #[.pointer (some ⟨cb, 0, none⟩)]] w fun e w' => ∃ u, e = .returned u ∧ Edgs w' u (rest P l) ∧ Below B w w' := by
  rcases idx_spec (P := P) (l := l) with ⟨_, h2⟩ | ⟨k0, hk0, hi, hPk, hpre⟩
  · rw [ha] at h2; cases h2
  have h0 : 0 < l.length := by omega
  have FI := Lib.hid (indexD_any cb P hl.edgs (by omega) (fun W hW p q hpq => hp W (hW.mono hB0) hW.size p q hpq))
  obtain ⟨g, cap, hv⟩ : ∃ g cap, v = .slice (some ⟨g, 0, none⟩) l.length cap := by
    obtain ⟨g, cap, hv, _⟩ := ownsRow_pos hl h0
    exact ⟨g, cap, hv⟩
  subst hv
  obtain ⟨hBg, hc1, hc2, hrow⟩ := RowD.start (k := k0) hl h0
  have hst : (rest P (l.take (k0 + 1))).length = k0 ∧ RowD w g (k0 + 1) l (rest P (l.take (k0 + 1))) := by
    rw [rest_yes hk0 hPk, rest_none hpre]
    exact ⟨by rw [List.length_take]; omega, hrow.skip⟩
  rw [hi] at FI
  have HP := Lib.hid hp
  replace hst := Lib.hid hst
  clear hl ha hp hi hPk hpre hrow
  go_enter Try.func42, Try.ntmps42
  go_wp2_with (first
    | (go_at_call 47; (with_reducible refine FI.out.mono ?_); rintro e w1 ⟨rfl, hB1⟩))
  go_loopw [5, 6] (fun i j wr => ∃ q n : Nat, i = .int .i64 q ∧ j = .int .i64 n ∧ n ≤ l.length ∧ q < n ∧ Hid ((rest P (l.take n)).length = q ∧ RowD wr g n l (rest P (l.take n))) ∧ Hid (Below B w wr ∧ w.heap.size ≤ wr.heap.size)) (fun _ j _ => l.length - (intOf j).toNat)
  case atStart => exact ⟨k0, k0 + 1, rfl, by go_num, by omega, by omega, Lib.hid ⟨hst.out.1, hst.out.2.later hB1⟩, Lib.hid ⟨hB1.mono hB0, hB1.size⟩⟩
  case round =>
    obtain ⟨q, n, rfl, rfl, hnl, hqn, hrow, hB⟩ := hrel
    by_cases hk : n < l.length
    · obtain ⟨c0, c1⟩ := hrow.out.2.2.1 n hk (Nat.le_refl _)
      have i2 : (n : Int) < (l.length : Int) := by omega
      have i3 : (0 : Int) ≤ (n : Int) := by omega
      have hmem : l[n] ∈ l := List.getElem_mem hk
      have hyes := Lib.hid (rest_yes (P := P) hk)
      have hno := Lib.hid (rest_no (P := P) hk)
      have hlt := hrow.out.2.2.2.2.2
      obtain ⟨x, hx⟩ : ∃ x, l[n] = x := ⟨_, rfl⟩
      have hstore := Lib.hid (fun W (h : RowD W g n l (rest P (l.take n))) => RowD.store h hk (by rw [hrow.out.1]; omega))
      rw [hx] at c0 c1 hmem hyes hno hstore
      clear hx
      obtain ⟨p, r⟩ := x
      simp only at c0 c1 hstore
      have F := Lib.hid (fun W (hW : Below wr.heap.size wr W) => HP.out W (hB.out.1.trans (hW.mono (Nat.le_trans hB0 hB.out.2))) (Nat.le_trans hB.out.2 hW.size) p r hmem)
      clear hmem
      generalize hPb : P (p, r) = t at F hyes hno
      cases t
      · have hno2 := Lib.hid (hno.out rfl)
        have hl0 := Lib.hid hrow.out.1
        clear hyes hno hPb
        go_wp2_with (first
          | (go_at_call 44; (with_reducible refine (F.out _ (by (repeat' (first | assumption | exact Below.refl _ _ | apply Below.next_alloc | apply Below.drew | (apply Below.next; rotate_left; assumption))))).mono ?_); rintro e w2 ⟨rfl, hB2⟩; obtain ⟨hlt2, e0, e1⟩ := boxed2 hB2; have b2 := Lib.hid (next_allocs hB2); have R2 := Lib.hid (hrow.out.2.later b2.out); obtain ⟨u0, hu0⟩ := Option.isSome_iff_exists.1 (R2.out.2.2.1 (q * 2) (by omega)); obtain ⟨u1, hu1⟩ := Option.isSome_iff_exists.1 (R2.out.2.2.1 (q * 2 + 1) (by omega)); have f0 := R2.out.2.2.2.1 (q * 2); have f1 := R2.out.2.2.2.1 (q * 2 + 1)))
        go_roundw
        case rel =>
          refine ⟨_, _, _, _, _, _, _, _, _, _, _, _, _, _, _, _, _, _, _, _, _, _, _, ⟨q + 1, n + 1, by go_num, by go_num, by omega, by omega, Lib.hid ?_, Lib.hid ⟨((hB.out.1.trans (b2.out.mono (Nat.le_trans hB0 hB.out.2))).setCell (p := ⟨g, q * 2, none⟩) hBg _).setCell (p := ⟨g, q * 2 + 1, none⟩) hBg _, by simpa using Nat.le_trans hB.out.2 b2.out.size⟩⟩, rfl⟩
          have hS := hstore.out _ R2.out
          rw [hl0.out] at hS
          rw [hno2.out]
          exact ⟨by rw [List.length_append, hl0.out]; rfl, hS⟩
        case measure => simp [intOf]; omega
      · have hyes2 := Lib.hid (hyes.out rfl)
        clear hyes hno hPb
        go_wp2_with (first
          | (go_at_call 44; (with_reducible refine (F.out _ (by (repeat' (first | assumption | exact Below.refl _ _ | apply Below.next_alloc | apply Below.drew | (apply Below.next; rotate_left; assumption))))).mono ?_); rintro e w2 ⟨rfl, hB2⟩))
        go_roundw
        case rel =>
          exact ⟨_, _, _, _, _, _, _, _, _, _, _, _, _, _, _, _, _, _, _, _, _, _, _, ⟨q, n + 1, rfl, by go_num, by omega, by omega, Lib.hid (by rw [hyes2.out]; exact ⟨hrow.out.1, (hrow.out.2.later (next_allocs hB2)).skip⟩), Lib.hid ⟨hB.out.1.trans ((next_allocs hB2).mono (Nat.le_trans hB0 hB.out.2)), Nat.le_trans hB.out.2 (next_allocs hB2).size⟩⟩, rfl⟩
        case measure => simp [intOf]; omega
    · obtain rfl : n = l.length := by omega
      have hr := hrow.out
      rw [List.take_length] at hr
      have hcl := fun ty => run_clear2 wr 28 44 ty Try.underlying28 zeroE g (q * 2) (l.length - q) (cap - q) (by omega) (fun j hj => hr.2.2.2.1 (q * 2 + j) (by omega)) (fun j _ => hr.2.2.2.2.1 (q * 2 + j))
      replace hr := Lib.hid hr
      go_wp2
      go_ret
      refine ⟨.slice (some ⟨g, 0, none⟩) q cap, rfl, ?_, setCells_below hBg _ _ _ hB.out.1⟩
      have hkeep : ∀ m, m < q * 2 → (wr.setCells g (q * 2) (zsE (l.length - q))).cell? ⟨g, m, none⟩ = wr.cell? ⟨g, m, none⟩ := fun m hm => World.cell?_setCells_out g _ _ _ _ (fun _ _ => .inl hm)
      have hsz : g < (wr.setCells g (q * 2) (zsE (l.length - q))).heap.size := Nat.lt_of_lt_of_le hr.out.2.2.2.2.2 (setCells_below (B := 0) (Nat.zero_le g) _ _ _ ⟨rfl, rfl, rfl, Nat.le_refl _, fun _ h => absurd h (Nat.not_lt_zero _)⟩).size
      by_cases hq0 : q = 0
      · exact .inl ⟨List.length_eq_zero_iff.1 (hr.out.1.trans hq0), some ⟨g, 0, none⟩, cap, by rw [hq0], fun h => by cases h⟩
      · refine .inr ⟨by rw [hr.out.1]; omega, g, 0, cap, by rw [hr.out.1], hsz, by rw [hr.out.1]; omega, fun i hi => ?_⟩
        have hi2 : i < q := by rw [← hr.out.1]; exact hi
        rw [Nat.zero_add, hkeep _ (by omega), hkeep _ (by omega)]
        exact hr.out.2.1 i hi
set_option maxHeartbeats 1000000 in
theorem drop1_any {w : World} (b : Nat) (p q x y : ByteArray) (e0 : w.cell? ⟨b, 0, none⟩ = some (.string x)) (e1 : w.cell? ⟨b, 1, none⟩ = some (.string y)) :
    Calls Try.prog 44 #[.agg #[.string p, .string q], .pointer (some ⟨b, 0, none⟩)] w fun e w' => e = .returned (.bool (decide ((p, q) = (x, y)))) ∧ Below w.heap.size w w' := by
  have hb := World.block_lt_of_cell? w _ e0
  have d0 : ∀ o, (w.alloc o).cell? ⟨b, 0, none⟩ = some (.string x) := fun o => (World.cell?_alloc_lt w o ⟨b, 0, none⟩ hb).trans e0
  have d1 : ∀ o, (w.alloc o).cell? ⟨b, 1, none⟩ = some (.string y) := fun o => (World.cell?_alloc_lt w o ⟨b, 1, none⟩ hb).trans e1
  by_cases he : (p, q) = (x, y)
  · rw [decide_eq_true he]
    obtain ⟨rfl, rfl⟩ := Prod.mk.inj he
    have hE := eqE_yes p q
    go_enter Try.func44, Try.ntmps44
    go_wp2
    go_ret
    exact ⟨rfl, by (repeat' (first | assumption | exact Below.refl _ _ | apply Below.next_alloc | apply Below.drew | (apply Below.next; rotate_left; assumption)))⟩
  · rw [decide_eq_false he]
    have hE := eqE_no (a := p) (b := q) (c := x) (d := y) he
    go_enter Try.func44, Try.ntmps44
    go_wp2
    go_ret
    exact ⟨rfl, by (repeat' (first | assumption | exact Below.refl _ _ | apply Below.next_alloc | apply Below.drew | (apply Below.next; rotate_left; assumption)))⟩
/-- what Drop tells -/
def dropL (l : List (ByteArray × ByteArray)) (e : ByteArray × ByteArray) : List (ByteArray × ByteArray) × Int := if isIn e l = true then (rest (fun x => decide (x = e)) l, 0) else (l, 6)
set_option maxHeartbeats 4000000 in
theorem drop_any {w : World} {v : Value} {l : List (ByteArray × ByteArray)} (x y : ByteArray) (hl : Edgs w v l) (hn : l.length ≤ 1000) : Calls Try.prog 23 #[v, .agg #[.string x, .string y]] w (GivesA w (dropL l (x, y))) := by
  have FC := Lib.hid (fun W (hB : Below w.heap.size w W) => containsE_any (w := W) x y (hl.below hB) (by omega))
  have HL := Lib.hid hl
  obtain ⟨a, c, hv⟩ := hl.slice
  cases hi : isIn (x, y) l
  · rw [hi] at FC
    have hr := Lib.hid (show dropL l (x, y) = (l, 6) by unfold dropL; rw [hi]; rfl)
    subst hv
    clear hl hi
    go_enter Try.func23, Try.ntmps23
    go_wp2_with (first
      | (go_at_call 40; (with_reducible refine (FC.out _ (by (repeat' (first | assumption | exact Below.refl _ _ | apply Below.next_alloc | apply Below.drew | (apply Below.next; rotate_left; assumption))))).mono ?_); rintro e w1 ⟨rfl, hB1⟩))
    go_ret2
    rw [hr.out]
    exact ⟨_, rfl, HL.out.below (next_allocs hB1), next_allocs hB1⟩
  · rw [hi] at FC
    have hr := Lib.hid (show dropL l (x, y) = (rest (fun e => decide (e = (x, y))) l, 0) by unfold dropL; rw [hi]; rfl)
    have hmem := isIn_iff.1 hi
    have h0 : 0 < l.length := List.length_pos_of_mem hmem
    have ha : l.any (fun e => decide (e = (x, y))) = true := List.any_eq_true.2 ⟨_, hmem, decide_eq_true rfl⟩
    have FK := Lib.hid (fun W (hB : Below w.heap.size w W) => clone_any (w := W) (hl.below hB) h0 hn)
    have FD : ∀ W0 W v, w.heap.size < W0.heap.size → W0.cell? ⟨w.heap.size, 0, none⟩ = some (.string x) → W0.cell? ⟨w.heap.size, 1, none⟩ = some (.string y) → Below W0.heap.size W0 W → OwnE 44 W W0.heap.size v l → Calls Try.prog 42 #[v, .func (.func 44) #[] #[.pointer (some ⟨w.heap.size, 0, none⟩)]] W fun e w' => ∃ u, e = .returned u ∧ Edgs w' u (rest (fun e => decide (e = (x, y))) l) ∧ Below W0.heap.size W w' := fun W0 W v hlt e0 e1 hB ho =>
      delete_any (fun e => decide (e = (x, y))) ho hB.size hn ha fun W2 hB2 _ p q _ =>
        drop1_any w.heap.size p q x y (((hB.trans hB2).cell (p := ⟨w.heap.size, 0, none⟩) hlt).trans e0) (((hB.trans hB2).cell (p := ⟨w.heap.size, 1, none⟩) hlt).trans e1)
    replace FD := Lib.hid FD
    subst hv
    clear hl hi hmem ha
    go_enter Try.func23, Try.ntmps23
    go_wp2_with (first
      | (go_at_call 40; (with_reducible refine (FC.out _ (by (repeat' (first | assumption | exact Below.refl _ _ | apply Below.next_alloc | apply Below.drew | (apply Below.next; rotate_left; assumption))))).mono ?_); rintro e w1 ⟨rfl, hB1⟩; obtain ⟨hlt, e0, e1⟩ := boxed2 hB1; have b1 := Lib.hid (next_allocs hB1); have e0 := Lib.hid e0; have e1 := Lib.hid e1)
      | (go_at_call 43; (with_reducible refine (FK.out _ b1.out).mono ?_); rintro e w2 ⟨v2, rfl, hO2, hB2⟩; have hO2 := Lib.hid hO2)
      | (go_at_call 42; (with_reducible refine (FD.out w1 _ _ hlt e0.out e1.out hB2 hO2.out).mono ?_); rintro e w3 ⟨v3, rfl, hE3, hB3⟩))
    go_ret2
    rw [hr.out]
    exact ⟨_, rfl, hE3, b1.out.trans ((hB2.trans hB3).mono (Nat.le_of_lt hlt))⟩
end Go.Proofs.Ythelkkbjflohgaa.Ds

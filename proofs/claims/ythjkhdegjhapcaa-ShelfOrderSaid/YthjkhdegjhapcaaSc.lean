/- The walks through the program's shelf that make a new list. -/
import Derived.Test.YthjkhdegjhapcaaSb
import Derived.Deep.AppendLies
namespace Go.Proofs.Ythjkhdegjhapcaa.Sa
open Go.RowKit Sp
theorem infoE : (Try.prog.info? 46).map (fun i => (i.zero, i.size, i.bytes)) = some (some (.agg #[.string ByteArray.empty, .int .i64 0]), 2, 24) := by kernel_rfl
/-- the cells of entries -/
def cellsOf (es : List Ent) : List Value := es.flatMap fun e => [.string e.1, .int .i64 e.2]
theorem cellsOf_length (es : List Ent) : (cellsOf es).length = es.length * 2 := by
  unfold cellsOf
  induction es with
  | nil => rfl
  | cons e es ih => simp only [List.flatMap_cons, List.length_append, ih, List.length_cons, List.length_nil]; omega
theorem cellsOf_append (a b : List Ent) : cellsOf (a ++ b) = cellsOf a ++ cellsOf b := by unfold cellsOf; rw [List.flatMap_append]
theorem cellsOf_get (es : List Ent) : ∀ h (hh : h < es.length), (cellsOf es)[h * 2]? = some (.string es[h].1) ∧ (cellsOf es)[h * 2 + 1]? = some (.int .i64 es[h].2) := by
  induction es with
  | nil => intro h hh; simp at hh
  | cons e es ih =>
    intro h hh
    have hc : cellsOf (e :: es) = .string e.1 :: .int .i64 e.2 :: cellsOf es := rfl
    cases h with
    | zero => exact ⟨rfl, rfl⟩
    | succ h =>
      have e1 : (h + 1) * 2 = h * 2 + 1 + 1 := by omega
      rw [hc, e1, List.getElem?_cons_succ, List.getElem?_cons_succ, List.getElem_cons_succ, List.getElem?_cons_succ, List.getElem?_cons_succ]
      exact ih h (by simpa using hh)
theorem cellsOf_one (es : List Ent) : ∀ u ∈ cellsOf es, u.oneCell' = true := by
  intro u hu
  unfold cellsOf at hu
  obtain ⟨e, _, he⟩ := List.mem_flatMap.1 hu
  simp only [List.mem_cons, List.not_mem_nil, or_false] at he
  rcases he with rfl | rfl <;> rfl
theorem cellsOf_take (es : List Ent) (k : Nat) : cellsOf (es.take k) = (cellsOf es).take (k * 2) := by
  induction es generalizing k with
  | nil => simp [cellsOf]
  | cons e es ih =>
    cases k with
    | zero => rfl
    | succ k =>
      have hc : cellsOf (e :: es) = .string e.1 :: .int .i64 e.2 :: cellsOf es := rfl
      have e1 : (k + 1) * 2 = k * 2 + 1 + 1 := by omega
      rw [List.take_succ_cons, hc, e1, List.take_succ_cons, List.take_succ_cons, ← ih]
      rfl
theorem cellsOf_drop (es : List Ent) (k : Nat) : cellsOf (es.drop k) = (cellsOf es).drop (k * 2) := by
  induction es generalizing k with
  | nil => simp [cellsOf]
  | cons e es ih =>
    cases k with
    | zero => rfl
    | succ k =>
      have hc : cellsOf (e :: es) = .string e.1 :: .int .i64 e.2 :: cellsOf es := rfl
      have e1 : (k + 1) * 2 = k * 2 + 1 + 1 := by omega
      rw [List.drop_succ_cons, hc, e1, List.drop_succ_cons, List.drop_succ_cons, ← ih]
theorem _root_.List.getElem?_take_some {α : Type} {l : List α} {n j : Nat} {u : α} (h : (l.take n)[j]? = some u) : l[j]? = some u := by
  rw [List.getElem?_take] at h
  split at h
  · exact h
  · cases h
/-- the cells one by one, out of the entries -/
theorem cells_all {w : World} {b o : Nat} {es : List Ent} (h : ∀ h (hh : h < es.length), w.cell? ⟨b, o + h * 2, none⟩ = some (.string es[h].1) ∧ w.cell? ⟨b, o + h * 2 + 1, none⟩ = some (.int .i64 es[h].2)) :
    ∀ j u, (cellsOf es)[j]? = some u → w.cell? ⟨b, o + j, none⟩ = some u := by
  intro j u hu
  have hj : j < (cellsOf es).length := by
    rw [List.getElem?_eq_some_iff] at hu
    exact hu.1
  rw [cellsOf_length] at hj
  have hh : j / 2 < es.length := by omega
  obtain ⟨a1, a2⟩ := h (j / 2) hh
  obtain ⟨b1, b2⟩ := cellsOf_get es (j / 2) hh
  by_cases he : j % 2 = 0
  · have e : j = j / 2 * 2 := by omega
    rw [e] at hu ⊢
    rw [b1] at hu
    rw [← hu]; exact a1
  · have e : j = j / 2 * 2 + 1 := by omega
    rw [e] at hu ⊢
    rw [b2] at hu
    rw [← hu]; exact a2
theorem add_eq (b o j : Nat) : (⟨b, o, none⟩ : Addr).add j = ⟨b, o + j, none⟩ := by
  unfold Addr.add; split <;> simp_all
/-- the first k entries, read in a later world -/
theorem part_news {w wk : World} {b o : Nat} {es : List Ent} (hlt : b < w.heap.size) (hB : Below w.heap.size w wk) (hc : Hid (∀ h (hh : h < es.length), w.cell? ⟨b, o + h * 2, none⟩ = some (.string es[h].1) ∧ w.cell? ⟨b, o + h * 2 + 1, none⟩ = some (.int .i64 es[h].2))) (k : Nat) :
    ∀ ad, some (⟨b, o, none⟩ : Addr) = some ad → ∀ j u, (cellsOf (es.take k))[j]? = some u → wk.cell? (ad.add j) = some u := by
  intro ad had j u hu
  cases had
  rw [add_eq]
  rw [cellsOf_take] at hu
  exact (hB.cell (p := ⟨b, o + j, none⟩) hlt).trans (cells_all hc.out j u (List.getElem?_take_some hu))
/-- the entries from the k-th on, read in a later world -/
theorem tail_news {w wk : World} {b o : Nat} {es : List Ent} (hlt : b < w.heap.size) (hB : Below w.heap.size w wk) (hc : Hid (∀ h (hh : h < es.length), w.cell? ⟨b, o + h * 2, none⟩ = some (.string es[h].1) ∧ w.cell? ⟨b, o + h * 2 + 1, none⟩ = some (.int .i64 es[h].2))) (k : Nat) {ad : Addr} (had : k < es.length → ad = ⟨b, o + k * 2, none⟩) :
    ∀ j u, (cellsOf (es.drop k))[j]? = some u → wk.cell? (ad.add j) = some u := by
  intro j u hu
  have hj : j < (cellsOf (es.drop k)).length := by
    rw [List.getElem?_eq_some_iff] at hu
    exact hu.1
  rw [cellsOf_length, List.length_drop] at hj
  rw [had (by omega), add_eq]
  rw [cellsOf_drop, List.getElem?_drop] at hu
  have := (hB.cell (p := ⟨b, o + (k * 2 + j), none⟩) hlt).trans (cells_all hc.out _ u hu)
  rw [Nat.add_assoc]; exact this
theorem ownsRow_cast {w : World} {base E sz : Nat} {v v' : Value} {n n' : Nat} {xs xs' : List Value} (h : w.ownsRow base E sz v n xs) (hv : v = v') (hn : n = n') (hx : xs = xs') : w.ownsRow base E sz v' n' xs' := by
  subst hv; subst hn; subst hx; exact h
/-- A call made a new list of entries, and nothing else that was there has turned. -/
def Made (E : TypeId) (es : List Ent) (w : World) (e : Ending) (w' : World) : Prop :=
  ∃ v', e = .returned v' ∧ w'.ownsRow w.heap.size E 2 v' es.length (cellsOf es) ∧ Below w.heap.size w w'
/-- what Put makes of a shelf -/
def pput (es : List Ent) (t : ByteArray) (x : Int) : List Ent := es.take (cnt es t) ++ (t, x) :: es.drop (cnt es t + if has es t = true then 1 else 0)
theorem cellsOf_put (a d : List Ent) (t : ByteArray) (x : Int) : cellsOf (a ++ (t, x) :: d) = cellsOf a ++ [.string t, .int .i64 x] ++ cellsOf d := by
  simp [cellsOf]
theorem cnt_lt_of_has {es : List Ent} {t : ByteArray} (hs : Sorted es) (hh : has es t = true) : cnt es t < es.length := by
  have := has_spec hs t
  rw [hh] at this
  cases hc : decide (cnt es t < es.length)
  · rw [hc] at this; simp at this
  · exact of_decide_eq_true hc
set_option maxHeartbeats 1000000 in
theorem put_any {v : Value} {es : List Ent} (t : ByteArray) (x : Int) {w : World} (hE : Ents w v es) (hs : Sorted es) (hn : es.length ≤ 1000) :
    Calls Try.prog 24 #[v, .string t, .int .i64 x] w (Made 46 (pput es t x) w) := by
  have F := Lib.hid (find_any t hE hs (by omega))
  have cl := cnt_le es t
  obtain ⟨i0, hi, hz0, hz1, hz2⟩ := info_parts infoE
  rcases hE with ⟨rfl, a, cap, rfl, ha⟩ | ⟨h0, b, o, cap, rfl, hlt, hcap, hcell⟩
  · have hp := Lib.hid (show pput [] t x = [(t, x)] by rfl)
    have c0 : cnt [] t = 0 := rfl
    have hh : has [] t = false := rfl
    have F' := Lib.hid F.out
    rw [c0, hh] at F'
    clear F c0 hh cl
    cases a with
    | none =>
      have ha := ha rfl
      subst ha
      go_enter Try.func24, Try.ntmps24
      go_wp2_with (first
        | (go_at_call 18; refine F'.out.mono ?_; rintro e w1 ⟨rfl, hB1⟩)
        | (with_reducible refine wpList_make_own _ rfl _ _ _ rfl w.heap.size 46 i0 _ 2 Try.underlying25 hi hz0 hz1 .i64 .i64 _ 1 rfl rfl (by omega) (by rw [hz2]; omega) (by unfold maxLen; omega) hB1.size ?_; intro w2 hown2 hg2)
        | (at_builtin; refine wpList_append_fits_any _ rfl _ _ _ rfl w.heap.size 46 i0 2 Try.underlying25 hi hz1 w1.heap.size 1 1 _ rfl hown4 _ _ _ [] rfl rfl (fun _ => ⟨rfl, rfl⟩) (fun _ _ j u hu => by simp at hu) (by simp) (by omega) ?_; intro w5 hown5 hg5; have hB5 := hB4.grown hg5 hB4.size (fun k hk => by cases hk; exact hB1.size); clear hown4)
        | (at_builtin; refine wpList_append_fits _ rfl _ _ _ rfl w.heap.size 46 i0 2 Try.underlying25 hi hz1 w1.heap.size 0 1 [] rfl (hown3.alloc _) ⟨w3.heap.size, 0, none⟩ 1 1 [.string t, .int .i64 x] rfl rfl (World.news_of_block (cs := #[.string t, .int .i64 x]) (t := 46) (fr := (0, 0)) (heap_alloc_new w3 _)) (by simp [Value.oneCell']) (by omega) ?_; intro w4 hown4 hg4; simp only [Nat.zero_add, List.nil_append] at hown4; have hB4 := (hB3.alloc hB3.size _).grown hg4 (by simp; have := hB3.size; omega) (fun k hk => by cases hk; exact hB1.size); clear hown3)
        | (at_builtin; refine wpList_append_fits_any _ rfl _ _ _ rfl w.heap.size 46 i0 2 Try.underlying25 hi hz1 w1.heap.size 0 1 [] rfl hown2 _ _ _ [] rfl rfl (fun _ => ⟨rfl, rfl⟩) (fun _ _ j u hu => by simp at hu) (by simp) (by omega) ?_; intro w3 hown3 hg3; simp only [List.nil_append, Nat.add_zero] at hown3; have hB3 := (hB1.grown hg2 hB1.size (by intro k hk; cases hk)).grown hg3 (Nat.le_trans hB1.size hg2.size) (fun k hk => by cases hk; exact hB1.size); clear hown2))
      all_goals
        go_ret
        exact ⟨_, rfl, ownsRow_cast hown5 rfl (by rw [hp.out]; rfl) (by rw [hp.out]; rfl), hB5⟩
    | some ad =>
      go_enter Try.func24, Try.ntmps24
      go_wp2_with (first
        | (go_at_call 18; refine F'.out.mono ?_; rintro e w1 ⟨rfl, hB1⟩)
        | (with_reducible refine wpList_make_own _ rfl _ _ _ rfl w.heap.size 46 i0 _ 2 Try.underlying25 hi hz0 hz1 .i64 .i64 _ 1 rfl rfl (by omega) (by rw [hz2]; omega) (by unfold maxLen; omega) hB1.size ?_; intro w2 hown2 hg2)
        | (at_builtin; refine wpList_append_fits_any _ rfl _ _ _ rfl w.heap.size 46 i0 2 Try.underlying25 hi hz1 w1.heap.size 1 1 _ rfl hown4 _ _ _ [] rfl rfl (by intro h; first | (cases h; done) | (split at h <;> cases h)) (fun _ _ j u hu => by simp at hu) (by simp) (by omega) ?_; intro w5 hown5 hg5; have hB5 := hB4.grown hg5 hB4.size (fun k hk => by cases hk; exact hB1.size); clear hown4)
        | (at_builtin; refine wpList_append_fits _ rfl _ _ _ rfl w.heap.size 46 i0 2 Try.underlying25 hi hz1 w1.heap.size 0 1 [] rfl (hown3.alloc _) ⟨w3.heap.size, 0, none⟩ 1 1 [.string t, .int .i64 x] rfl rfl (World.news_of_block (cs := #[.string t, .int .i64 x]) (t := 46) (fr := (0, 0)) (heap_alloc_new w3 _)) (by simp [Value.oneCell']) (by omega) ?_; intro w4 hown4 hg4; simp only [Nat.zero_add, List.nil_append] at hown4; have hB4 := (hB3.alloc hB3.size _).grown hg4 (by simp; have := hB3.size; omega) (fun k hk => by cases hk; exact hB1.size); clear hown3)
        | (at_builtin; refine wpList_append_fits_any _ rfl _ _ _ rfl w.heap.size 46 i0 2 Try.underlying25 hi hz1 w1.heap.size 0 1 [] rfl hown2 _ _ _ [] rfl rfl (by intro h; first | (cases h; done) | (split at h <;> cases h)) (fun _ _ j u hu => by simp at hu) (by simp) (by omega) ?_; intro w3 hown3 hg3; simp only [List.nil_append, Nat.add_zero] at hown3; have hB3 := (hB1.grown hg2 hB1.size (by intro k hk; cases hk)).grown hg3 (Nat.le_trans hB1.size hg2.size) (fun k hk => by cases hk; exact hB1.size); clear hown2))
      all_goals
        go_ret
        exact ⟨_, rfl, ownsRow_cast hown5 rfl (by rw [hp.out]; rfl) (by rw [hp.out]; rfl), hB5⟩
  · have HC := Lib.hid hcell
    clear hcell
    cases hh : has es t
    · have hp := Lib.hid (show pput es t x = es.take (cnt es t) ++ (t, x) :: es.drop (cnt es t) by unfold pput; rw [hh]; rfl)
      go_enter Try.func24, Try.ntmps24
      go_wp2_with (first
        | (go_at_call 18; refine F.out.mono ?_; rintro e w1 ⟨rfl, hB1⟩)
        | (with_reducible refine wpList_make_own _ rfl _ _ _ rfl w.heap.size 46 i0 _ 2 Try.underlying25 hi hz0 hz1 .i64 .i64 _ (es.length + 1) rfl rfl (by omega) (by rw [hz2]; omega) (by unfold maxLen; omega) hB1.size ?_; intro w2 hown2 hg2)
        | (at_builtin; refine wpList_append_fits_any _ rfl _ _ _ rfl w.heap.size 46 i0 2 Try.underlying25 hi hz1 w1.heap.size (cnt es t + 1) (es.length + 1) _ rfl hown4 _ _ _ (cellsOf (es.drop (cnt es t))) rfl (by rw [cellsOf_length, List.length_drop]) (by intro h; split at h <;> cases h) (fun ad had => tail_news hlt hB4 HC _ (fun hk => by (split at had <;> (first | omega | (cases had; rfl))))) (cellsOf_one _) (by omega) ?_; intro w5 hown5 hg5; have hB5 := hB4.grown hg5 hB4.size (fun k hk => by cases hk; exact hB1.size); clear hown4)
        | (at_builtin; refine wpList_append_fits _ rfl _ _ _ rfl w.heap.size 46 i0 2 Try.underlying25 hi hz1 w1.heap.size (cnt es t) (es.length + 1) (cellsOf (es.take (cnt es t))) rfl (hown3.alloc _) ⟨w3.heap.size, 0, none⟩ 1 1 [.string t, .int .i64 x] rfl rfl (World.news_of_block (cs := #[.string t, .int .i64 x]) (t := 46) (fr := (0, 0)) (heap_alloc_new w3 _)) (by simp [Value.oneCell']) (by omega) ?_; intro w4 hown4 hg4; have hB4 := (hB3.alloc hB3.size _).grown hg4 (by simp; have := hB3.size; omega) (fun k hk => by cases hk; exact hB1.size); clear hown3)
        | (at_builtin; refine wpList_append_fits_any _ rfl _ _ _ rfl w.heap.size 46 i0 2 Try.underlying25 hi hz1 w1.heap.size 0 (es.length + 1) [] rfl hown2 _ _ _ (cellsOf (es.take (cnt es t))) rfl (by rw [cellsOf_length, List.length_take, Nat.min_eq_left cl]) (by intro h; cases h) (part_news hlt (hB1.grown hg2 hB1.size (by intro k hk; cases hk)) HC (cnt es t)) (cellsOf_one _) (by omega) ?_; intro w3 hown3 hg3; simp only [Nat.zero_add, List.nil_append] at hown3; have hB3 := (hB1.grown hg2 hB1.size (by intro k hk; cases hk)).grown hg3 (Nat.le_trans hB1.size hg2.size) (fun k hk => by cases hk; exact hB1.size); clear hown2))
      all_goals
        go_ret
        exact ⟨_, rfl, ownsRow_cast hown5 rfl (by rw [hp.out, List.length_append, List.length_cons, List.length_take, List.length_drop]; omega) (by rw [hp.out, cellsOf_put]), hB5⟩
    · have hp := Lib.hid (show pput es t x = es.take (cnt es t) ++ (t, x) :: es.drop (cnt es t + 1) by unfold pput; rw [hh]; rfl)
      have cl2 := cnt_lt_of_has hs hh
      go_enter Try.func24, Try.ntmps24
      go_wp2_with (first
        | (go_at_call 18; refine F.out.mono ?_; rintro e w1 ⟨rfl, hB1⟩)
        | (with_reducible refine wpList_make_own _ rfl _ _ _ rfl w.heap.size 46 i0 _ 2 Try.underlying25 hi hz0 hz1 .i64 .i64 _ (es.length + 1) rfl rfl (by omega) (by rw [hz2]; omega) (by unfold maxLen; omega) hB1.size ?_; intro w2 hown2 hg2)
        | (at_builtin; refine wpList_append_fits_any _ rfl _ _ _ rfl w.heap.size 46 i0 2 Try.underlying25 hi hz1 w1.heap.size (cnt es t + 1) (es.length + 1) _ rfl hown4 _ _ _ (cellsOf (es.drop (cnt es t + 1))) rfl (by rw [cellsOf_length, List.length_drop]) (by intro h; split at h <;> cases h) (fun ad had => tail_news hlt hB4 HC _ (fun hk => by (split at had <;> (first | omega | (cases had; rfl))))) (cellsOf_one _) (by omega) ?_; intro w5 hown5 hg5; have hB5 := hB4.grown hg5 hB4.size (fun k hk => by cases hk; exact hB1.size); clear hown4)
        | (at_builtin; refine wpList_append_fits _ rfl _ _ _ rfl w.heap.size 46 i0 2 Try.underlying25 hi hz1 w1.heap.size (cnt es t) (es.length + 1) (cellsOf (es.take (cnt es t))) rfl (hown3.alloc _) ⟨w3.heap.size, 0, none⟩ 1 1 [.string t, .int .i64 x] rfl rfl (World.news_of_block (cs := #[.string t, .int .i64 x]) (t := 46) (fr := (0, 0)) (heap_alloc_new w3 _)) (by simp [Value.oneCell']) (by omega) ?_; intro w4 hown4 hg4; have hB4 := (hB3.alloc hB3.size _).grown hg4 (by simp; have := hB3.size; omega) (fun k hk => by cases hk; exact hB1.size); clear hown3)
        | (at_builtin; refine wpList_append_fits_any _ rfl _ _ _ rfl w.heap.size 46 i0 2 Try.underlying25 hi hz1 w1.heap.size 0 (es.length + 1) [] rfl hown2 _ _ _ (cellsOf (es.take (cnt es t))) rfl (by rw [cellsOf_length, List.length_take, Nat.min_eq_left cl]) (by intro h; cases h) (part_news hlt (hB1.grown hg2 hB1.size (by intro k hk; cases hk)) HC (cnt es t)) (cellsOf_one _) (by omega) ?_; intro w3 hown3 hg3; simp only [Nat.zero_add, List.nil_append] at hown3; have hB3 := (hB1.grown hg2 hB1.size (by intro k hk; cases hk)).grown hg3 (Nat.le_trans hB1.size hg2.size) (fun k hk => by cases hk; exact hB1.size); clear hown2))
      all_goals
        go_ret
        exact ⟨_, rfl, ownsRow_cast hown5 rfl (by rw [hp.out, List.length_append, List.length_cons, List.length_take, List.length_drop]; omega) (by rw [hp.out, cellsOf_put]), hB5⟩
end Go.Proofs.Ythjkhdegjhapcaa.Sa

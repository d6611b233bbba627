/- The walk through the program's shelf.Drop. -/
import Derived.Test.YthjkhdegjhapcaaSc
namespace Go.Proofs.Ythjkhdegjhapcaa.Sa
open Go.RowKit Sp
/-- what Drop makes of a shelf -/
def pdrop (es : List Ent) (t : ByteArray) : List Ent := es.take (cnt es t) ++ es.drop (cnt es t + if has es t = true then 1 else 0)
set_option maxHeartbeats 1000000 in
theorem drop_any {v : Value} {es : List Ent} (t : ByteArray) {w : World} (hE : Ents w v es) (hs : Sorted es) (hn : es.length ≤ 1000) :
    Calls Try.prog 10 #[v, .string t] w (Made 46 (pdrop es t) w) := by
  have F := Lib.hid (find_any t hE hs (by omega))
  have cl := cnt_le es t
  obtain ⟨i0, hi, hz0, hz1, hz2⟩ := info_parts infoE
  rcases hE with ⟨rfl, a, cap, rfl, ha⟩ | ⟨h0, b, o, cap, rfl, hlt, hcap, hcell⟩
  · have hp := Lib.hid (show pdrop [] t = [] by rfl)
    have c0 : cnt [] t = 0 := rfl
    have hh : has [] t = false := rfl
    have F' := Lib.hid F.out
    rw [c0, hh] at F'
    clear F c0 hh cl
    cases a with
    | none =>
      have ha := ha rfl
      subst ha
      go_enter Try.func10, Try.ntmps10
      go_wp2_with (first
        | (go_at_call 18; refine F'.out.mono ?_; rintro e w1 ⟨rfl, hB1⟩)
        | (with_reducible refine wpList_make_own _ rfl _ _ _ rfl w.heap.size 46 i0 _ 2 Try.underlying25 hi hz0 hz1 .i64 .i64 _ 0 rfl rfl (by omega) (by rw [hz2]; omega) (by unfold maxLen; omega) hB1.size ?_; intro w2 hown2 hg2)
        | (at_builtin; refine wpList_append_fits_any _ rfl _ _ _ rfl w.heap.size 46 i0 2 Try.underlying25 hi hz1 w1.heap.size 0 0 _ rfl hown3 _ _ _ [] rfl rfl (fun _ => ⟨rfl, rfl⟩) (fun _ _ j u hu => by simp at hu) (by simp) (by omega) ?_; intro w5 hown5 hg5; have hB5 := hB3.grown hg5 hB3.size (fun k hk => by cases hk; exact hB1.size); clear hown3)
        | (at_builtin; refine wpList_append_fits_any _ rfl _ _ _ rfl w.heap.size 46 i0 2 Try.underlying25 hi hz1 w1.heap.size 0 0 [] rfl hown2 _ _ _ [] rfl rfl (fun _ => ⟨rfl, rfl⟩) (fun _ _ j u hu => by simp at hu) (by simp) (by omega) ?_; intro w3 hown3 hg3; simp only [List.nil_append, Nat.add_zero] at hown3; have hB3 := (hB1.grown hg2 hB1.size (by intro k hk; cases hk)).grown hg3 (Nat.le_trans hB1.size hg2.size) (fun k hk => by cases hk; exact hB1.size); clear hown2))
      all_goals
        go_ret
        exact ⟨_, rfl, ownsRow_cast hown5 rfl (by rw [hp.out]; rfl) (by rw [hp.out]; rfl), hB5⟩
    | some ad =>
      go_enter Try.func10, Try.ntmps10
      go_wp2_with (first
        | (go_at_call 18; refine F'.out.mono ?_; rintro e w1 ⟨rfl, hB1⟩)
        | (with_reducible refine wpList_make_own _ rfl _ _ _ rfl w.heap.size 46 i0 _ 2 Try.underlying25 hi hz0 hz1 .i64 .i64 _ 0 rfl rfl (by omega) (by rw [hz2]; omega) (by unfold maxLen; omega) hB1.size ?_; intro w2 hown2 hg2)
        | (at_builtin; refine wpList_append_fits_any _ rfl _ _ _ rfl w.heap.size 46 i0 2 Try.underlying25 hi hz1 w1.heap.size 0 0 _ rfl hown3 _ _ _ [] rfl rfl (by intro h; first | (cases h; done) | (split at h <;> cases h)) (fun _ _ j u hu => by simp at hu) (by simp) (by omega) ?_; intro w5 hown5 hg5; have hB5 := hB3.grown hg5 hB3.size (fun k hk => by cases hk; exact hB1.size); clear hown3)
        | (at_builtin; refine wpList_append_fits_any _ rfl _ _ _ rfl w.heap.size 46 i0 2 Try.underlying25 hi hz1 w1.heap.size 0 0 [] rfl hown2 _ _ _ [] rfl rfl (by intro h; first | (cases h; done) | (split at h <;> cases h)) (fun _ _ j u hu => by simp at hu) (by simp) (by omega) ?_; intro w3 hown3 hg3; simp only [List.nil_append, Nat.add_zero] at hown3; have hB3 := (hB1.grown hg2 hB1.size (by intro k hk; cases hk)).grown hg3 (Nat.le_trans hB1.size hg2.size) (fun k hk => by cases hk; exact hB1.size); clear hown2))
      all_goals
        go_ret
        exact ⟨_, rfl, ownsRow_cast hown5 rfl (by rw [hp.out]; rfl) (by rw [hp.out]; rfl), hB5⟩
  · have HC := Lib.hid hcell
    clear hcell
    cases hh : has es t
    · have hp := Lib.hid (show pdrop es t = es.take (cnt es t) ++ es.drop (cnt es t) by unfold pdrop; rw [hh]; rfl)
      go_enter Try.func10, Try.ntmps10
      go_wp2_with (first
        | (go_at_call 18; refine F.out.mono ?_; rintro e w1 ⟨rfl, hB1⟩)
        | (with_reducible refine wpList_make_own _ rfl _ _ _ rfl w.heap.size 46 i0 _ 2 Try.underlying25 hi hz0 hz1 .i64 .i64 _ (es.length) rfl rfl (by omega) (by rw [hz2]; omega) (by unfold maxLen; omega) hB1.size ?_; intro w2 hown2 hg2)
        | (at_builtin; refine wpList_append_fits_any _ rfl _ _ _ rfl w.heap.size 46 i0 2 Try.underlying25 hi hz1 w1.heap.size (cnt es t) (es.length) _ rfl hown3 _ _ _ (cellsOf (es.drop (cnt es t))) rfl (by rw [cellsOf_length, List.length_drop]) (by intro h; split at h <;> cases h) (fun ad had => tail_news hlt hB3 HC _ (fun hk => by (split at had <;> (first | omega | (cases had; rfl))))) (cellsOf_one _) (by omega) ?_; intro w5 hown5 hg5; have hB5 := hB3.grown hg5 hB3.size (fun k hk => by cases hk; exact hB1.size); clear hown3)
        | (at_builtin; refine wpList_append_fits_any _ rfl _ _ _ rfl w.heap.size 46 i0 2 Try.underlying25 hi hz1 w1.heap.size 0 (es.length) [] rfl hown2 _ _ _ (cellsOf (es.take (cnt es t))) rfl (by rw [cellsOf_length, List.length_take, Nat.min_eq_left cl]) (by intro h; cases h) (part_news hlt (hB1.grown hg2 hB1.size (by intro k hk; cases hk)) HC (cnt es t)) (cellsOf_one _) (by omega) ?_; intro w3 hown3 hg3; simp only [Nat.zero_add, List.nil_append] at hown3; have hB3 := (hB1.grown hg2 hB1.size (by intro k hk; cases hk)).grown hg3 (Nat.le_trans hB1.size hg2.size) (fun k hk => by cases hk; exact hB1.size); clear hown2))
      all_goals
        go_ret
        exact ⟨_, rfl, ownsRow_cast hown5 (by show Value.slice _ _ _ = Value.slice _ _ _; first | rfl | (congr 1; omega)) (by rw [hp.out, List.length_append, List.length_take, List.length_drop]; omega) (by rw [hp.out, cellsOf_append]), hB5⟩
    · have hp := Lib.hid (show pdrop es t = es.take (cnt es t) ++ es.drop (cnt es t + 1) by unfold pdrop; rw [hh]; rfl)
      have cl2 := cnt_lt_of_has hs hh
      go_enter Try.func10, Try.ntmps10
      go_wp2_with (first
        | (go_at_call 18; refine F.out.mono ?_; rintro e w1 ⟨rfl, hB1⟩)
        | (with_reducible refine wpList_make_own _ rfl _ _ _ rfl w.heap.size 46 i0 _ 2 Try.underlying25 hi hz0 hz1 .i64 .i64 _ (es.length) rfl rfl (by omega) (by rw [hz2]; omega) (by unfold maxLen; omega) hB1.size ?_; intro w2 hown2 hg2)
        | (at_builtin; refine wpList_append_fits_any _ rfl _ _ _ rfl w.heap.size 46 i0 2 Try.underlying25 hi hz1 w1.heap.size (cnt es t) (es.length) _ rfl hown3 _ _ _ (cellsOf (es.drop (cnt es t + 1))) rfl (by rw [cellsOf_length, List.length_drop]) (by intro h; split at h <;> cases h) (fun ad had => tail_news hlt hB3 HC _ (fun hk => by (split at had <;> (first | omega | (cases had; rfl))))) (cellsOf_one _) (by omega) ?_; intro w5 hown5 hg5; have hB5 := hB3.grown hg5 hB3.size (fun k hk => by cases hk; exact hB1.size); clear hown3)
        | (at_builtin; refine wpList_append_fits_any _ rfl _ _ _ rfl w.heap.size 46 i0 2 Try.underlying25 hi hz1 w1.heap.size 0 (es.length) [] rfl hown2 _ _ _ (cellsOf (es.take (cnt es t))) rfl (by rw [cellsOf_length, List.length_take, Nat.min_eq_left cl]) (by intro h; cases h) (part_news hlt (hB1.grown hg2 hB1.size (by intro k hk; cases hk)) HC (cnt es t)) (cellsOf_one _) (by omega) ?_; intro w3 hown3 hg3; simp only [Nat.zero_add, List.nil_append] at hown3; have hB3 := (hB1.grown hg2 hB1.size (by intro k hk; cases hk)).grown hg3 (Nat.le_trans hB1.size hg2.size) (fun k hk => by cases hk; exact hB1.size); clear hown2))
      all_goals
        go_ret
        exact ⟨_, rfl, ownsRow_cast hown5 (by show Value.slice _ _ _ = Value.slice _ _ _; first | rfl | (congr 1; omega)) (by rw [hp.out, List.length_append, List.length_take, List.length_drop]; omega) (by rw [hp.out, cellsOf_append]), hB5⟩
end Go.Proofs.Ythjkhdegjhapcaa.Sa

/- The walk of the law MomentTells. -/
import Derived.Test.YtbjiiejgepgdeaaDoorMr
import Derived.Deep.RegionHeld3
import Derived.Deep.DeepCutAuto
namespace Go.Proofs.YtbjiiejgepgdeaaDoor.Ma
open Go.RowKit Mo Ut Cw
/-- the array at block o, and the two values at the blocks a and b -/
def Cel (o a b : Nat) (k s l t : Int) (W : World) : Prop := (o < W.heap.size ∧ a < W.heap.size ∧ b < W.heap.size) ∧ W.cell? ⟨o, 0, none⟩ = some (.int .u8 k) ∧ W.cell? ⟨o, 1, none⟩ = some (.int .i64 s) ∧ W.cell? ⟨o, 2, none⟩ = some (.int .u8 l) ∧ W.cell? ⟨o, 3, none⟩ = some (.int .i64 t) ∧
  W.cell? ⟨a, 0, none⟩ = some (.int .u8 k) ∧ W.cell? ⟨a, 1, none⟩ = some (.int .i64 s) ∧ W.cell? ⟨b, 0, none⟩ = some (.int .u8 l) ∧ W.cell? ⟨b, 1, none⟩ = some (.int .i64 t)
theorem cel_later {o a b : Nat} {k s l t : Int} {W W2 : World} (h : Cel o a b k s l t W) (hB : Below W.heap.size W W2) : Cel o a b k s l t W2 := by
  obtain ⟨⟨h1, h2, h3⟩, q1, q2, q3, q4, q5, q6, q7, q8⟩ := h
  have := hB.size
  exact ⟨⟨by omega, by omega, by omega⟩, later hB h1 q1, later hB h1 q2, later hB h1 q3, later hB h1 q4, later hB h2 q5, later hB h2 q6, later hB h3 q7, later hB h3 q8⟩
/-- The region that copies both values: in whatever order. -/
theorem cel_ab (w : World) (k s l t : Int) (T T' : TypeId) : Cel w.heap.size (w.heap.size + 1) (w.heap.size + 1 + 1) k s l t (((w.alloc (.cells #[.int .u8 k, .int .i64 s, .int .u8 l, .int .i64 t] T)).alloc (.cells #[.int .u8 k, .int .i64 s] T')).alloc (.cells #[.int .u8 l, .int .i64 t] T')) := by
  unfold Cel
  refine ⟨⟨by simp; omega, by simp, by simp⟩, ?_, ?_, ?_, ?_, ?_, ?_, ?_, ?_⟩ <;> go_simp
theorem cel_ba (w : World) (k s l t : Int) (T T' : TypeId) : Cel w.heap.size (w.heap.size + 1 + 1) (w.heap.size + 1) k s l t (((w.alloc (.cells #[.int .u8 k, .int .i64 s, .int .u8 l, .int .i64 t] T)).alloc (.cells #[.int .u8 l, .int .i64 t] T')).alloc (.cells #[.int .u8 k, .int .i64 s] T')) := by
  unfold Cel
  refine ⟨⟨by simp; omega, by simp, by simp⟩, ?_, ?_, ?_, ?_, ?_, ?_, ?_, ?_⟩ <;> go_simp
set_option maxHeartbeats 4000000 in
set_option maxRecDepth 100000 in
theorem momentTells_any (k s l t : Int) (w : World) (hT : Tab w) (k0 : 0 ≤ k ∧ k ≤ 255) : Calls Tryd.prog 4 #[.agg #[.int .u8 k, .int .i64 s, .int .u8 l, .int .i64 t]] w fun e w' => e = .returned (.bool true) ∧ Below w.heap.size w w' := by
  have HT := Lib.hid hT
  clear hT
  obtain ⟨p, hp⟩ : ∃ p, p = str (prM k s) := ⟨_, rfl⟩
  obtain ⟨n, hn⟩ : ∃ n, n = if chk k s = 0 then s / 86400 else 0 := ⟨_, rfl⟩
  obtain ⟨r, hr⟩ : ∃ r, r = if chk k s = 0 then s % 86400 else 0 := ⟨_, rfl⟩
  obtain ⟨y, hy⟩ : ∃ y, y = why k t := ⟨_, rfl⟩
  obtain ⟨B, hBB⟩ : ∃ B, B = (decide (s < t) || (decide (s = t) && decide (k < l))) := ⟨_, rfl⟩
  obtain ⟨x, z, hxz⟩ : ∃ x z, atV k t = .agg #[.int .u8 x, .int .i64 z] := by
    by_cases h : why k t = 0
    · exact ⟨_, _, atV_in h⟩
    · exact ⟨_, _, atV_ne h⟩
  have F1 : Hid (∀ w, Tab w → Calls Tryd.prog 10 #[.agg #[.int .u8 k, .int .i64 s]] w fun e w' => e = .returned (.tuple #[.string p, .int .i64 (chk k s)]) ∧ Below w.heap.size w w') := Lib.hid fun w hT => by rw [hp]; exact print_any k s k0 w hT
  have F2 : Hid (∀ w, Calls Tryd.prog 11 #[.agg #[.int .u8 k, .int .i64 s]] w fun e w' => e = .returned (.tuple #[.string p, .int .i64 (chk k s)]) ∧ Below w.heap.size w w') := Lib.hid fun w => by rw [hp]; exact rprint_any k s k0 w
  have F3 : Hid (∀ w, Calls Tryd.prog 12 #[.agg #[.int .u8 k, .int .i64 s]] w fun e w' => e = .returned (.tuple #[.int .i64 n, .int .i64 r]) ∧ Below w.heap.size w w') := Lib.hid fun w => by rw [hn, hr]; exact split_any k s k0 w
  have F4 : Hid (∀ w, Calls Tryd.prog 13 #[.agg #[.int .u8 k, .int .i64 s]] w fun e w' => e = .returned (.tuple #[.int .i64 n, .int .i64 r]) ∧ Below w.heap.size w w') := Lib.hid fun w => by rw [hn, hr]; exact rsplit_any k s k0 w
  have F5 : Hid (∀ w, Calls Tryd.prog 14 #[.int .u8 k, .int .i64 t] w fun e w' => e = .returned (.tuple #[.agg #[.int .u8 x, .int .i64 z], .int .i64 y]) ∧ Below w.heap.size w w') := Lib.hid fun w => by rw [hy, ← hxz]; exact at_any k t k0 w
  have F6 : Hid (∀ w, Calls Tryd.prog 15 #[.int .u8 k, .int .i64 t] w fun e w' => e = .returned (.tuple #[.agg #[.int .u8 x, .int .i64 z], .int .i64 y]) ∧ Below w.heap.size w w') := Lib.hid fun w => by rw [hy, ← hxz]; exact rat_any k t k0 w
  have F7 : Hid (∀ w, Calls Tryd.prog 16 #[.agg #[.int .u8 k, .int .i64 s]] w fun e w' => e = .returned (.int .i64 (chk k s)) ∧ Below w.heap.size w w') := Lib.hid fun w => check_any k s k0 w
  have F8 : Hid (∀ w, Calls Tryd.prog 17 #[.agg #[.int .u8 k, .int .i64 s]] w fun e w' => e = .returned (.int .i64 (chk k s)) ∧ Below w.heap.size w w') := Lib.hid fun w => rcheck_any k s k0 w
  have F9 : Hid (∀ w, Calls Tryd.prog 18 #[.agg #[.int .u8 k, .int .i64 s], .agg #[.int .u8 l, .int .i64 t]] w fun e w' => e = .returned (.bool B) ∧ Below w.heap.size w w') := Lib.hid fun w => by rw [hBB]; exact before_any k s l t w
  have F10 : Hid (∀ w, Calls Tryd.prog 19 #[.agg #[.int .u8 k, .int .i64 s], .agg #[.int .u8 l, .int .i64 t]] w fun e w' => e = .returned (.bool B) ∧ Below w.heap.size w w') := Lib.hid fun w => by rw [hBB]; exact rbefore_any k s l t w
  clear hp hn hr hy hBB hxz
  generalize chk k s = v at *
  go_enter Tryd.func4, Tryd.ntmps4
  go_upto_region 1 with fail
  go_cut [3, 4] (fun A B wx => ∃ a b : Nat, A = .pointer (some ⟨a, 0, none⟩) ∧ B = .pointer (some ⟨b, 0, none⟩) ∧ Cel w.heap.size a b k s l t wx ∧ Below w.heap.size w wx)
  case first =>
    go_region
    all_goals
      go_wp2_with fail
      go_meet
      first
        | exact ⟨_, _, rfl, rfl, cel_ab w k s l t _ _, by (repeat' (first | assumption | exact Below.refl _ _ | apply Below.next_alloc | apply Below.drew | (apply Below.next; rotate_left; assumption)))⟩
        | exact ⟨_, _, rfl, rfl, cel_ba w k s l t _ _, by (repeat' (first | assumption | exact Below.refl _ _ | apply Below.next_alloc | apply Below.drew | (apply Below.next; rotate_left; assumption)))⟩
  case rest =>
  obtain ⟨a, b, rfl, rfl, K, hb0⟩ := hcut
  have K0 := K
  obtain ⟨⟨o1, o2, o3⟩, q1, q2, q3, q4, q5, q6, q7, q8⟩ := K
  go_wp2_with (first
    | (go_at_call 10; refine (F1.out _ (HT.out.later hb0)).mono ?_; rintro e w1 ⟨rfl, hB⟩; clear o1 o2 o3 q1 q2 q3 q4 q5 q6 q7 q8; have K := cel_later K0 hB; have hb1 := Below.next hb0 hB; clear hB; clear K0; have K0 := K; obtain ⟨⟨o1, o2, o3⟩, q1, q2, q3, q4, q5, q6, q7, q8⟩ := K)
    | (go_at_call 11; refine (F2.out _).mono ?_; rintro e w2 ⟨rfl, hB⟩; clear o1 o2 o3 q1 q2 q3 q4 q5 q6 q7 q8; have K := cel_later K0 hB; have hb2 := Below.next hb1 hB; clear hB; clear K0; have K0 := K; obtain ⟨⟨o1, o2, o3⟩, q1, q2, q3, q4, q5, q6, q7, q8⟩ := K)
    | (go_at_call 12; refine (F3.out _).mono ?_; rintro e w3 ⟨rfl, hB⟩; clear o1 o2 o3 q1 q2 q3 q4 q5 q6 q7 q8; have K := cel_later K0 hB; have hb3 := Below.next hb2 hB; clear hB; clear K0; have K0 := K; obtain ⟨⟨o1, o2, o3⟩, q1, q2, q3, q4, q5, q6, q7, q8⟩ := K)
    | (go_at_call 13; refine (F4.out _).mono ?_; rintro e w4 ⟨rfl, hB⟩; clear o1 o2 o3 q1 q2 q3 q4 q5 q6 q7 q8; have K := cel_later K0 hB; have hb4 := Below.next hb3 hB; clear hB; clear K0; have K0 := K; obtain ⟨⟨o1, o2, o3⟩, q1, q2, q3, q4, q5, q6, q7, q8⟩ := K)
    | (go_at_call 14; refine (F5.out _).mono ?_; rintro e w5 ⟨rfl, hB⟩; clear o1 o2 o3 q1 q2 q3 q4 q5 q6 q7 q8; have K := cel_later K0 hB; have hb5 := Below.next hb4 hB; clear hB; clear K0; have K0 := K; obtain ⟨⟨o1, o2, o3⟩, q1, q2, q3, q4, q5, q6, q7, q8⟩ := K)
    | (go_at_call 15; refine (F6.out _).mono ?_; rintro e w6 ⟨rfl, hB⟩; clear o1 o2 o3 q1 q2 q3 q4 q5 q6 q7 q8; have K := cel_later (cel_later K0 (Below.next_alloc (Below.refl _ _) _)) hB; obtain ⟨c1, c2, c3⟩ := boxed hB; have hb6 := Below.next_allocs hb5 hB; clear hB; clear K0; have K0 := K; obtain ⟨⟨o1, o2, o3⟩, q1, q2, q3, q4, q5, q6, q7, q8⟩ := K))
  have K7 := cel_later K0 (Below.next_alloc (Below.refl _ w6) (.cells #[.int .u8 x, .int .i64 z] 28))
  have d1 := World.cell?_alloc_mark w6 #[.int .u8 x, .int .i64 z] 28 (0, 0) 0
  have d2 := World.cell?_alloc_mark w6 #[.int .u8 x, .int .i64 z] 28 (0, 0) 1
  have hd : w6.heap.size < (w6.alloc (.cells #[.int .u8 x, .int .i64 z] 28)).heap.size := by simp
  have hc := Nat.lt_trans c1 hd
  have c2 := later (Below.next_alloc (Below.refl _ w6) (.cells #[.int .u8 x, .int .i64 z] 28)) c1 c2
  have c3 := later (Below.next_alloc (Below.refl _ w6) (.cells #[.int .u8 x, .int .i64 z] 28)) c1 c3
  have hbW := Below.next_alloc hb6 (.cells #[.int .u8 x, .int .i64 z] 28)
  clear o1 o2 o3 q1 q2 q3 q4 q5 q6 q7 q8 K0 hb1 hb2 hb3 hb4 hb5 hb6
  generalize w6.alloc (.cells #[.int .u8 x, .int .i64 z] 28) = W at *
  obtain ⟨⟨o1, o2, o3⟩, q1, q2, q3, q4, q5, q6, q7, q8⟩ := K7
  have Sl := Lib.hid (show ∀ w', Below W.heap.size W w' → w'.cell? ⟨w.heap.size, 0, none⟩ = some (.int .u8 k) ∧ w'.cell? ⟨w.heap.size, 1, none⟩ = some (.int .i64 s) ∧ w'.cell? ⟨w.heap.size, 2, none⟩ = some (.int .u8 l) ∧ w'.cell? ⟨w.heap.size, 3, none⟩ = some (.int .i64 t) ∧ w'.cell? ⟨a, 0, none⟩ = some (.int .u8 k) ∧ w'.cell? ⟨a, 1, none⟩ = some (.int .i64 s) ∧ w'.cell? ⟨b, 0, none⟩ = some (.int .u8 l) ∧ w'.cell? ⟨b, 1, none⟩ = some (.int .i64 t) ∧ w'.cell? ⟨w5.heap.size, 0, none⟩ = some (.int .u8 x) ∧ w'.cell? ⟨w5.heap.size, 1, none⟩ = some (.int .i64 z) ∧ w'.cell? ⟨w6.heap.size, 0, none⟩ = some (.int .u8 x) ∧ w'.cell? ⟨w6.heap.size, 1, none⟩ = some (.int .i64 z) from fun w' h =>
    ⟨later h o1 q1, later h o1 q2, later h o1 q3, later h o1 q4, later h o2 q5, later h o2 q6, later h o3 q7, later h o3 q8, later h hc c2, later h hc c3, later h hd d1, later h hd d2⟩)
  go_region_held3 (fun w' => w'.cell? ⟨w.heap.size, 0, none⟩ = some (.int .u8 k) ∧ w'.cell? ⟨w.heap.size, 1, none⟩ = some (.int .i64 s) ∧ w'.cell? ⟨w.heap.size, 2, none⟩ = some (.int .u8 l) ∧ w'.cell? ⟨w.heap.size, 3, none⟩ = some (.int .i64 t) ∧ w'.cell? ⟨a, 0, none⟩ = some (.int .u8 k) ∧ w'.cell? ⟨a, 1, none⟩ = some (.int .i64 s) ∧ w'.cell? ⟨b, 0, none⟩ = some (.int .u8 l) ∧ w'.cell? ⟨b, 1, none⟩ = some (.int .i64 t) ∧ w'.cell? ⟨w5.heap.size, 0, none⟩ = some (.int .u8 x) ∧ w'.cell? ⟨w5.heap.size, 1, none⟩ = some (.int .i64 z) ∧ w'.cell? ⟨w6.heap.size, 0, none⟩ = some (.int .u8 x) ∧ w'.cell? ⟨w6.heap.size, 1, none⟩ = some (.int .i64 z)) (first | go_keep | exact Sl.out _ (by (repeat' (first | assumption | exact Below.refl _ _ | apply Below.next_alloc | apply Below.drew | (apply Below.next; rotate_left; assumption)))))
    (first
      | (go_at_call 16; refine (F7.out _).mono ?_; rintro e w8 ⟨rfl, hB8⟩)
      | (go_at_call 17; refine (F8.out _).mono ?_; rintro e w9 ⟨rfl, hB9⟩)
      | (go_at_call 18; refine (F9.out _).mono ?_; rintro e w10 ⟨rfl, hB10⟩)
      | (go_at_call 19; refine (F10.out _).mono ?_; rintro e w11 ⟨rfl, hB11⟩)
      | (go_at_call 7; refine (awake_any _ (HT.out.later (by (repeat' (first | assumption | exact Below.refl _ _ | apply Below.next_alloc | apply Below.drew | (apply Below.next; rotate_left; assumption)))))).mono ?_; rintro e w12 ⟨rfl, hB12⟩))
  go_wp2
  go_ret
  exact ⟨rfl, by (repeat' (first | assumption | exact Below.refl _ _ | apply Below.next_alloc | apply Below.drew | (apply Below.next; rotate_left; assumption)))⟩
end Go.Proofs.YtbjiiejgepgdeaaDoor.Ma

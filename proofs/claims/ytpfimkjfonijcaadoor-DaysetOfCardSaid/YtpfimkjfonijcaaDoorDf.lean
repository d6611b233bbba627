/- The walk through dayset's onDay. -/
import Derived.Test.YtpfimkjfonijcaaDoorDe
namespace Go.Proofs.YtpfimkjfonijcaaDoor.Da
open Go.RowKit Ru Ut Cw Ra
theorem onDayC {W : World} {v : Value} {l : List (Int × Int)} (f : Dy.F) (ws : Int × Int) (bf bw o cap : Nat) (hl : Days W v l) (hn : l.length ≤ 1000) (hf : bf < W.heap.size) (hw : bw < W.heap.size) (c3 : W.cell? ⟨bf, 3, none⟩ = some (.int .i64 f.weekday)) (cw : W.cell? ⟨bw, 0, none⟩ = some (.slice (some ⟨bf, o, none⟩) 2 cap))
    (c0 : W.cell? ⟨bf, o, none⟩ = some (.int .i64 ws.1)) (c1 : W.cell? ⟨bf, o + 1, none⟩ = some (.int .i64 ws.2)) {t : Bool} (ht : l.any (Dy.hit f ws) = t) :
    Calls Tryd.prog 66 #[v, .func (.func 72) #[] #[.pointer (some ⟨bf, 0, none⟩), .pointer (some ⟨bw, 0, none⟩)]] W fun e w' => e = .returned (.bool t) ∧ Below W.heap.size W w' := by
  have F := containsFuncO_any (.pointer (some ⟨bf, 0, none⟩)) (.pointer (some ⟨bw, 0, none⟩)) (Dy.hit f ws) hl (by omega) (fun W2 hB p q _ => by
    exact onDay1_any W2 bf bw o cap p q f.weekday ws.1 ws.2 (Nat.lt_of_lt_of_le hf hB.size) (Nat.lt_of_lt_of_le hw hB.size) ((hB.cell (p := ⟨bf, 3, none⟩) hf).trans c3) ((hB.cell (p := ⟨bw, 0, none⟩) hw).trans cw) ((hB.cell (p := ⟨bf, o, none⟩) hf).trans c0) ((hB.cell (p := ⟨bf, o + 1, none⟩) hf).trans c1))
  rwa [ht] at F
theorem al3_mid (w : World) (A : Obj) (cs : Array Value) (t : TypeId) (B : Obj) (i : Nat) : (((w.alloc A).alloc (.cells cs t)).alloc B).cell? ⟨w.heap.size + 1, i, none⟩ = cs[i]? := by
  rw [World.cell?_alloc_lt _ _ _ (by simp)]
  simp
theorem al3_top (w : World) (A B : Obj) (cs : Array Value) (t : TypeId) (i : Nat) : (((w.alloc A).alloc B).alloc (.cells cs t)).cell? ⟨w.heap.size + 2, i, none⟩ = cs[i]? := by
  have h := World.cell?_alloc_new (w := (w.alloc A).alloc B) cs t i
  simpa using h
theorem onDay_nil {r : R} {f : Dy.F} (h : r.day.length = 0) : Dy.onDay r f = true := by unfold Dy.onDay; rw [decide_eq_true h]; rfl
theorem onDay_ways {r : R} {f : Dy.F} (h : ¬ r.day.length = 0) {ws : Int × Int} (hw : Dy.ways r f = ws) : r.day.any (Dy.hit f ws) = Dy.onDay r f := by unfold Dy.onDay; rw [decide_eq_false h, hw]; rfl
set_option maxHeartbeats 4000000 in
set_option maxRecDepth 100000 in
theorem onDay_any (w : World) (r : R) (sv : Nat → Value) (f : Dy.F) (hL : Lists w r sv) (hn : Short r) : Calls Tryd.prog 50 #[ruleV r sv, factsV f] w fun e w' => e = .returned (.bool (Dy.onDay r f)) ∧ Below w.heap.size w w' := by
  have n7 := hn.2
  have n11 : r.month.length ≤ 1000 := hn.1 11 (by decide) (by decide) (by decide)
  obtain ⟨a7, k7, e7⟩ := hL.2.slice
  have hD := hL.2
  obtain ⟨a11, k11, e11⟩ := (hL.1 11 (by decide) (by decide) (by decide)).slice
  change sv 11 = .slice a11 r.month.length k11 at e11
  rw [e7] at hD
  unfold ruleV ruleC factsV factsC
  rw [e7, e11]
  clear e7 e11 hL hn
  have HD := Lib.hid hD
  clear hD
  by_cases h0 : r.day.length = 0
  · have hr := Lib.hid (onDay_nil (f := f) h0)
    have q0 : ((r.day.length : Int) == 0) = true := by simp [h0]
    clear h0
    by_cases h5 : r.freq = 5
    · have q5 : (r.freq == 5) = true := by simp [h5]
      clear h5
      go_enter Tryd.func50, Tryd.ntmps50
      go_wp2
      go_ret
      exact ⟨ret_b hr.out.symm, by (repeat' (first | assumption | exact Below.refl _ _ | apply Below.next_alloc | apply Below.drew | (apply Below.next; rotate_left; assumption)))⟩
    · have q5 : (r.freq == 5) = false := by simp [h5]
      clear h5
      by_cases hm : 0 < (r.month.length : Int)
      · go_enter Tryd.func50, Tryd.ntmps50
        go_wp2
        go_ret
        exact ⟨ret_b hr.out.symm, by (repeat' (first | assumption | exact Below.refl _ _ | apply Below.next_alloc | apply Below.drew | (apply Below.next; rotate_left; assumption)))⟩
      · go_enter Tryd.func50, Tryd.ntmps50
        go_wp2
        go_ret
        exact ⟨ret_b hr.out.symm, by (repeat' (first | assumption | exact Below.refl _ _ | apply Below.next_alloc | apply Below.drew | (apply Below.next; rotate_left; assumption)))⟩
  · have q0 : ((r.day.length : Int) == 0) = false := by rw [beq_eq_false_iff_ne]; omega
    by_cases h5 : r.freq = 5
    · have q5 : (r.freq == 5) = true := by simp [h5]
      have hr := Lib.hid (onDay_ways h0 (f := f) (ws := (f.n0, f.n1)) (by unfold Dy.ways; rw [if_pos (.inl h5)]))
      clear h5 h0
      go_enter Tryd.func50, Tryd.ntmps50
      go_wp2_with (first | (go_at_call 66; refine (onDayC f (f.n0, f.n1) (w.heap.size + 1) (w.heap.size + 2) 7 4 (HD.out.below (by (repeat' (first | assumption | exact Below.refl _ _ | apply Below.next_alloc | apply Below.drew | (apply Below.next; rotate_left; assumption))))) (by omega) (by simp) (by simp) ((al3_mid _ _ _ _ _ _).trans rfl) ((al3_top _ _ _ _ _ _).trans rfl) ((al3_mid _ _ _ _ _ _).trans rfl) ((al3_mid _ _ _ _ _ _).trans rfl) hr.out).mono ?_; rintro e w' ⟨rfl, hB⟩))
      go_ret
      exact ⟨rfl, by (repeat' (first | assumption | exact Below.refl _ _ | apply Below.next_alloc | apply Below.drew | (apply Below.next; rotate_left; assumption)))⟩
    · have q5 : (r.freq == 5) = false := by simp [h5]
      by_cases hm : 0 < (r.month.length : Int)
      · have hr := Lib.hid (onDay_ways h0 (f := f) (ws := (f.n0, f.n1)) (by unfold Dy.ways; rw [if_pos (.inr (by omega))]))
        clear h5 h0
        go_enter Tryd.func50, Tryd.ntmps50
        go_wp2_with (first | (go_at_call 66; refine (onDayC f (f.n0, f.n1) (w.heap.size + 1) (w.heap.size + 2) 7 4 (HD.out.below (by (repeat' (first | assumption | exact Below.refl _ _ | apply Below.next_alloc | apply Below.drew | (apply Below.next; rotate_left; assumption))))) (by omega) (by simp) (by simp) ((al3_mid _ _ _ _ _ _).trans rfl) ((al3_top _ _ _ _ _ _).trans rfl) ((al3_mid _ _ _ _ _ _).trans rfl) ((al3_mid _ _ _ _ _ _).trans rfl) hr.out).mono ?_; rintro e w' ⟨rfl, hB⟩))
        go_ret
        exact ⟨rfl, by (repeat' (first | assumption | exact Below.refl _ _ | apply Below.next_alloc | apply Below.drew | (apply Below.next; rotate_left; assumption)))⟩
      · have hr := Lib.hid (onDay_ways h0 (f := f) (ws := (f.n2, f.n3)) (by unfold Dy.ways; rw [if_neg (by omega)]))
        clear h5 h0
        go_enter Tryd.func50, Tryd.ntmps50
        go_wp2_with (first | (go_at_call 66; refine (onDayC f (f.n2, f.n3) (w.heap.size + 1) (w.heap.size + 2) 9 2 (HD.out.below (by (repeat' (first | assumption | exact Below.refl _ _ | apply Below.next_alloc | apply Below.drew | (apply Below.next; rotate_left; assumption))))) (by omega) (by simp) (by simp) ((al3_mid _ _ _ _ _ _).trans rfl) ((al3_top _ _ _ _ _ _).trans rfl) ((al3_mid _ _ _ _ _ _).trans rfl) ((al3_mid _ _ _ _ _ _).trans rfl) hr.out).mono ?_; rintro e w' ⟨rfl, hB⟩))
        go_ret
        exact ⟨rfl, by (repeat' (first | assumption | exact Below.refl _ _ | apply Below.next_alloc | apply Below.drew | (apply Below.next; rotate_left; assumption)))⟩
end Go.Proofs.YtpfimkjfonijcaaDoor.Da

/- The walks through the reference's Reach, Acyclic, Add, Drop. -/
import Derived.Test.YthelkkbjflohgaaHb
import Derived.Test.YthelkkbjflohgaaGi
import Derived.Deep.RegionHeld3
namespace Go.Proofs.Ythelkkbjflohgaa.Ds
open Go.RowKit Ut Gr Go.Maps
set_option maxHeartbeats 2000000 in
theorem rReach_any {w : World} {v : Value} {l : List (ByteArray × ByteArray)} (s t : ByteArray) (hl : Edgs w v l) (hn : l.length ≤ 1000) : Calls Try.prog 14 #[v, .string s, .string t] w fun e w' => e = .returned (.bool (way l s t)) ∧ Below w.heap.size w w' := by
  have FV := Lib.hid (reached_any s hl hn)
  clear hl
  cases h : way l s t
  · have h := Lib.hid (way_no.1 h)
    go_enter Try.func14, Try.ntmps14
    go_wp2_with (first
      | (go_at_call 36; (with_reducible refine FV.out.mono ?_); rintro e w1 ⟨out, v1, rfl, hO, hS, hlen, hB⟩; have hin := isIn_no (S := out) (x := t) (fun k => h.out ((hS t).1 k)); have FH := Lib.hid (rHas_any t hO.strs (by omega)))
      | (go_at_call 35; (with_reducible refine FH.out.mono ?_); rintro e w' ⟨rfl, rfl⟩))
    go_ret
    exact ⟨rfl, hB⟩
  · have h := Lib.hid (way_iff.1 h)
    go_enter Try.func14, Try.ntmps14
    go_wp2_with (first
      | (go_at_call 36; (with_reducible refine FV.out.mono ?_); rintro e w1 ⟨out, v1, rfl, hO, hS, hlen, hB⟩; have hin := isIn_yes (S := out) (x := t) ((hS t).2 h.out); have FH := Lib.hid (rHas_any t hO.strs (by omega)))
      | (go_at_call 35; (with_reducible refine FH.out.mono ?_); rintro e w' ⟨rfl, rfl⟩))
    go_ret
    exact ⟨rfl, hB⟩
theorem loops_iff {l : List (ByteArray × ByteArray)} {e : ByteArray × ByteArray} : loops l e = true ↔ e.2 = e.1 ∨ Leads l e.2 e.1 := by
  unfold loops
  rw [Bool.or_eq_true, decide_eq_true_iff, way_iff]
  exact or_congr ⟨fun h => h.symm, fun h => h.symm⟩ Iff.rfl
theorem acyc_iff {l : List (ByteArray × ByteArray)} : acyc l = true ↔ ∀ x, ¬ Leads l x x := by
  unfold acyc
  rw [Bool.not_eq_true', List.any_eq_false]
  constructor
  · intro h x hx
    obtain ⟨b, hb, hw⟩ := way_step.1 hx
    exact h _ hb (loops_iff.2 hw)
  · intro h e he hl
    exact h e.1 (way_step.2 ⟨e.2, he, loops_iff.1 hl⟩)
theorem acyc_of {l : List (ByteArray × ByteArray)} (h : ∀ e ∈ l, ¬ Leads l e.1 e.1) : acyc l = true := acyc_iff.2 fun x hx => by
  obtain ⟨b, hb⟩ := hx.first
  exact h _ hb hx
theorem acyc_not {l : List (ByteArray × ByteArray)} {x : ByteArray} (h : Leads l x x) : acyc l = false := by
  cases ha : acyc l
  · rfl
  · exact (acyc_iff.1 ha x h).elim
set_option maxHeartbeats 4000000 in
theorem rAcyclic_any {w : World} {v : Value} {l : List (ByteArray × ByteArray)} (hl : Edgs w v l) (hn : l.length ≤ 1000) : Calls Try.prog 16 #[v] w fun e w' => e = .returned (.bool (acyc l)) ∧ Below w.heap.size w w' := by
  have FR := Lib.hid (fun s t W (hB : Below w.heap.size w W) => rReach_any (w := W) s t (hl.below hB) hn)
  rcases hl with ⟨rfl, a, cap, rfl, ha⟩ | ⟨h0, b, o, cap, rfl, hlt, hcap, hcell⟩
  · go_enter Try.func16, Try.ntmps16
    go_wp2
    refine wp_loop_rounds 1 ?_
    rw [rounds_succ]
    go_wp2
    go_ret
    exact ⟨by rw [acyc_of (by simp)]; rfl, by (repeat' (first | assumption | exact Below.refl _ _ | apply Below.next_alloc | apply Below.drew | (apply Below.next; rotate_left; assumption)))⟩
  · have HC := Lib.hid hcell
    clear hcell
    go_enter Try.func16, Try.ntmps16
    go_wp2
    go_loopw [3] (fun i wr => ∃ k : Nat, k ≤ l.length ∧ i = .int .i64 k ∧ Hid (∀ e ∈ l.take k, ¬ Leads l e.1 e.1) ∧ Hid (Below w.heap.size w wr)) (fun i _ => l.length - (intOf i).toNat)
    case atStart => exact ⟨0, by omega, rfl, Lib.hid (by simp), Lib.hid (Below.refl _ _)⟩
    case round =>
      obtain ⟨k, k1, rfl, hx, hB⟩ := hrel
      by_cases hk : k < l.length
      · have c0 := (hB.out.cell (p := ⟨b, o + k * 2, none⟩) hlt).trans (HC.out k hk).1
        have hlt2 : b < wr.heap.size := Nat.lt_of_lt_of_le hlt hB.out.size
        have i2 : (k : Int) < (l.length : Int) := by omega
        have i3 : (0 : Int) ≤ (k : Int) := by omega
        have SL := Lib.hid (show ∀ W, Below wr.heap.size wr W → W.cell? ⟨b, o + k * 2, none⟩ = some (.string l[k].1) from fun W hW => (hW.cell (p := ⟨b, o + k * 2, none⟩) hlt2).trans c0)
        have F := FR.out l[k].1 l[k].1
        cases hwy : way l l[k].1 l[k].1
        · rw [hwy] at F
          have hx2 := Lib.hid (show ∀ e ∈ l.take (k + 1), ¬ Leads l e.1 e.1 from fun e he => by
            rw [List.take_succ_eq_append_getElem hk, List.mem_append, List.mem_singleton] at he
            rcases he with he | rfl
            · exact hx.out e he
            · exact way_no.1 hwy)
          clear hwy
          replace F := Lib.hid F
          go_wp2
          go_region_held3 (fun w' => w'.cell? ⟨b, o + k * 2, none⟩ = some (.string l[k].1)) (first | ((with_reducible refine SL.out _ ?_); (with_reducible (repeat' (first | assumption | exact Below.refl _ _ | apply Below.next_alloc | apply Below.drew | (apply Below.next; rotate_left; assumption)))); done) | go_keep)
            (first
              | (go_at_call 14; (with_reducible refine (F.out _ (Below.next hB.out (by (repeat' (first | assumption | exact Below.refl _ _ | apply Below.next_alloc | apply Below.drew | (apply Below.next; rotate_left; assumption)))))).mono ?_); rintro e y1 ⟨rfl, hB1⟩))
          go_wp2
          go_roundw
          case rel => exact ⟨k + 1, by omega, by go_num, hx2, Lib.hid (Below.next hB.out (by (repeat' (first | assumption | exact Below.refl _ _ | apply Below.next_alloc | apply Below.drew | (apply Below.next; rotate_left; assumption)))))⟩
          case measure => simp [intOf]; omega
        · rw [hwy] at F
          have hr := Lib.hid (acyc_not (way_iff.1 hwy))
          clear hwy
          replace F := Lib.hid F
          go_wp2
          go_region_held3 (fun w' => w'.cell? ⟨b, o + k * 2, none⟩ = some (.string l[k].1)) (first | ((with_reducible refine SL.out _ ?_); (with_reducible (repeat' (first | assumption | exact Below.refl _ _ | apply Below.next_alloc | apply Below.drew | (apply Below.next; rotate_left; assumption)))); done) | go_keep)
            (first
              | (go_at_call 14; (with_reducible refine (F.out _ (Below.next hB.out (by (repeat' (first | assumption | exact Below.refl _ _ | apply Below.next_alloc | apply Below.drew | (apply Below.next; rotate_left; assumption)))))).mono ?_); rintro e y1 ⟨rfl, hB1⟩))
          go_wp2
          go_ret
          exact ⟨by rw [hr.out]; rfl, Below.next hB.out (by (repeat' (first | assumption | exact Below.refl _ _ | apply Below.next_alloc | apply Below.drew | (apply Below.next; rotate_left; assumption))))⟩
      · have hr := Lib.hid (acyc_of (l := l) (by have h := hx.out; rwa [List.take_of_length_le (by omega)] at h))
        go_wp2
        go_ret
        exact ⟨by rw [hr.out]; rfl, hB.out⟩
set_option maxHeartbeats 4000000 in
set_option maxRecDepth 100000 in
theorem rAdd_any {w : World} {v : Value} {l : List (ByteArray × ByteArray)} (x y : ByteArray) (hl : Edgs w v l) (hn : l.length ≤ 1000) : Calls Try.prog 22 #[v, .agg #[.string x, .string y]] w (GivesA w (addL l (x, y))) := by
  have FC := Lib.hid (fun W (hB : Below w.heap.size w W) => there_any (w := W) x y (hl.below hB) (by omega))
  have FR := Lib.hid (fun W (hB : Below w.heap.size w W) => rReach_any (w := W) y x (hl.below hB) hn)
  have HL := Lib.hid hl
  obtain ⟨a, c, rfl⟩ := hl.slice
  clear hl
  unfold addL loops
  generalize isIn (x, y) l = i at *
  cases i
  rotate_left
  · rw [if_pos rfl]
    go_enter Try.func22, Try.ntmps22
    go_wp2_with (first
      | (go_at_call 41; (with_reducible refine (FC.out _ (by (repeat' (first | assumption | exact Below.refl _ _ | apply Below.next_alloc | apply Below.drew | (apply Below.next; rotate_left; assumption))))).mono ?_); rintro e w1 ⟨rfl, hB1⟩))
    go_ret2
    exact ⟨_, rfl, HL.out.below (next_allocs hB1), next_allocs hB1⟩
  rw [if_neg (by decide)]
  by_cases he : x = y
  · have hr := Lib.hid he
    simp only [decide_eq_true he, Bool.true_or, if_true]
    subst he
    go_enter Try.func22, Try.ntmps22
    go_wp2_with (first
      | (go_at_call 41; (with_reducible refine (FC.out _ (by (repeat' (first | assumption | exact Below.refl _ _ | apply Below.next_alloc | apply Below.drew | (apply Below.next; rotate_left; assumption))))).mono ?_); rintro e w1 ⟨rfl, hB1⟩; obtain ⟨hlt, e0, e1⟩ := boxed2 hB1))
    go_ret2
    exact ⟨_, rfl, HL.out.below (next_allocs hB1), next_allocs hB1⟩
  rw [decide_eq_false he, Bool.false_or]
  have hq := eqS_no he
  clear he
  generalize way l y x = r at *
  cases r
  rotate_left
  · rw [if_pos rfl]
    go_enter Try.func22, Try.ntmps22
    go_wp2_with (first
      | (go_at_call 41; (with_reducible refine (FC.out _ (by (repeat' (first | assumption | exact Below.refl _ _ | apply Below.next_alloc | apply Below.drew | (apply Below.next; rotate_left; assumption))))).mono ?_); rintro e w1 ⟨rfl, hB1⟩; obtain ⟨hlt, e0, e1⟩ := boxed2 hB1; have b1 := Lib.hid (next_allocs hB1))
      | (go_at_call 14; (with_reducible refine (FR.out _ b1.out).mono ?_); rintro e w2 ⟨rfl, hB2⟩))
    go_ret2
    exact ⟨_, rfl, HL.out.below (Below.next b1.out hB2), Below.next b1.out hB2⟩
  rw [if_neg (by decide)]
  go_enter Try.func22, Try.ntmps22
  go_wp2_with (first
    | (go_at_call 41; (with_reducible refine (FC.out _ (by (repeat' (first | assumption | exact Below.refl _ _ | apply Below.next_alloc | apply Below.drew | (apply Below.next; rotate_left; assumption))))).mono ?_); rintro e w1 ⟨rfl, hB1⟩; obtain ⟨hlt, e0, e1⟩ := boxed2 hB1; have b1 := Lib.hid (next_allocs hB1))
    | (go_at_call 14; (with_reducible refine (FR.out _ b1.out).mono ?_); rintro e w2 ⟨rfl, hB2⟩; have b2 := Lib.hid (Below.next b1.out hB2); have q0 := (hB2.cell (p := ⟨w.heap.size, 0, none⟩) hlt).trans e0; have q1 := (hB2.cell (p := ⟨w.heap.size, 1, none⟩) hlt).trans e1; have hlt2 := Nat.lt_of_lt_of_le hlt hB2.size)
    | (at_builtin; refine app_edges infoR Try.underlying22 rfl _ _ rfl w2.heap.size _ [] rfl (OwnE.nil _ _ _) _ l rfl (HL.out.below b2.out) (by simp; omega) (Nat.le_refl _) ?_; intro v4 w4 hown4 hB4; rw [List.nil_append] at hown4; have r0 := (hB4.cell (p := ⟨w.heap.size, 0, none⟩) hlt2).trans q0; have r1 := (hB4.cell (p := ⟨w.heap.size, 1, none⟩) hlt2).trans q1)
    | (at_builtin; refine push_edge infoR Try.underlying22 rfl _ _ rfl w2.heap.size _ l rfl hown4 rfl (by omega) hB4.size ?_; intro v5 w5 hown5 hB5))
  go_ret2
  exact ⟨_, rfl, hown5.edgs, Below.next b2.out (hB4.trans hB5)⟩
set_option maxHeartbeats 4000000 in
set_option maxRecDepth 100000 in
theorem rDrop_any {w : World} {v : Value} {l : List (ByteArray × ByteArray)} (x y : ByteArray) (hl : Edgs w v l) (hn : l.length ≤ 1000) : Calls Try.prog 24 #[v, .agg #[.string x, .string y]] w (GivesA w (dropL l (x, y))) := by
  have FC := Lib.hid (fun W (hB : Below w.heap.size w W) => there_any (w := W) x y (hl.below hB) (by omega))
  have HL := Lib.hid hl
  cases hi : isIn (x, y) l
  · rw [hi] at FC
    have hr := Lib.hid (show dropL l (x, y) = (l, 6) by unfold dropL; rw [hi]; rfl)
    obtain ⟨a, c, rfl⟩ := hl.slice
    clear hl hi
    go_enter Try.func24, Try.ntmps24
    go_wp2_with (first
      | (go_at_call 41; (with_reducible refine (FC.out _ (by (repeat' (first | assumption | exact Below.refl _ _ | apply Below.next_alloc | apply Below.drew | (apply Below.next; rotate_left; assumption))))).mono ?_); rintro e w1 ⟨rfl, hB1⟩))
    go_ret2
    rw [hr.out]
    exact ⟨_, rfl, HL.out.below (next_allocs hB1), next_allocs hB1⟩
  · rw [hi] at FC
    have hr := Lib.hid (show dropL l (x, y) = (rest (fun e => decide (e = (x, y))) l, 0) by unfold dropL; rw [hi]; rfl)
    have hmem := isIn_iff.1 hi
    rcases hl with ⟨rfl, _⟩ | ⟨h0, b, o, cap, rfl, hlt, hcap, hcell⟩
    · cases hmem
    have HC := Lib.hid hcell
    clear hi hmem hcell
    go_enter Try.func24, Try.ntmps24
    go_wp2_with (first
      | (go_at_call 41; (with_reducible refine (FC.out _ (by (repeat' (first | assumption | exact Below.refl _ _ | apply Below.next_alloc | apply Below.drew | (apply Below.next; rotate_left; assumption))))).mono ?_); rintro e w1 ⟨rfl, hB1⟩; obtain ⟨hlt1, e0, e1⟩ := boxed2 hB1; have b1 := Lib.hid (next_allocs hB1)))
    have e0 := Lib.hid e0
    have e1 := Lib.hid e1
    go_loopw [6, 7] (fun v i wr => ∃ k : Nat, k ≤ l.length ∧ i = .int .i64 k ∧ OwnE 25 wr w1.heap.size v (rest (fun e => decide (e = (x, y))) (l.take k)) ∧ Hid (Below w1.heap.size w1 wr)) (fun _ i _ => l.length - (intOf i).toNat)
    case atStart => exact ⟨0, by omega, rfl, OwnE.nil _ _ _, Lib.hid (Below.refl _ _)⟩
    case round =>
      obtain ⟨k, hk, rfl, hown, hB⟩ := hrel
      have hlen := rest_le (fun e => decide (e = (x, y))) (l.take k)
      rw [List.length_take] at hlen
      replace hown := Lib.hid hown
      by_cases hkl : k < l.length
      · have bw := b1.out.trans (hB.out.mono b1.out.size)
        have c0 := (bw.cell (p := ⟨b, o + k * 2, none⟩) hlt).trans (HC.out k hkl).1
        have c1 := (bw.cell (p := ⟨b, o + k * 2 + 1, none⟩) hlt).trans (HC.out k hkl).2
        have d0 := (hB.out.cell (p := ⟨w.heap.size, 0, none⟩) hlt1).trans e0.out
        have d1 := (hB.out.cell (p := ⟨w.heap.size, 1, none⟩) hlt1).trans e1.out
        have i2 : (k : Int) < (l.length : Int) := by omega
        have i3 : (0 : Int) ≤ (k : Int) := by omega
        clear bw
        by_cases he : l[k] = (x, y)
        · have hnext := Lib.hid (rest_yes (P := fun e => decide (e = (x, y))) hkl (decide_eq_true he))
          rw [he] at c0 c1
          have hE := eqR_yes x y
          clear he
          go_wp2
          go_quiet (fail)
          go_wp2
          go_roundw
          case rel => exact ⟨k + 1, by omega, by go_num, by rw [hnext.out]; exact hown.out.below (Base.below_drewN (Below.refl _ _) _), Lib.hid (Base.below_drewN hB.out _)⟩
          case measure => simp [intOf]; omega
        · have hnext := Lib.hid (rest_no (P := fun e => decide (e = (x, y))) hkl (decide_eq_false he))
          have hE := eqR_no (a := l[k].1) (b := l[k].2) (c := x) (d := y) he
          clear he
          go_wp2
          go_quiet (fail)
          generalize hWn : World.drewN _ _ = wn at *
          have c0 : wn.cell? ⟨b, o + k * 2, none⟩ = some (.string l[k].1) := by rw [← hWn]; exact c0
          have c1 : wn.cell? ⟨b, o + k * 2 + 1, none⟩ = some (.string l[k].2) := by rw [← hWn]; exact c1
          have hBn := Lib.hid (show Below wr.heap.size wr wn by rw [← hWn]; exact Base.below_drewN (Below.refl _ _) _)
          clear hWn
          go_wp2_with (first
            | (at_builtin; refine push_edge infoR Try.underlying22 rfl _ _ rfl w1.heap.size _ (rest (fun e => decide (e = (x, y))) (l.take k)) rfl (hown.out.below hBn.out) rfl (by omega) (Nat.le_trans hB.out.size hBn.out.size) ?_; intro v5 w5 hown5 hB5))
          go_roundw
          case rel => exact ⟨k + 1, by omega, by go_num, by rw [hnext.out]; exact hown5, Lib.hid ((hB.out.trans (hBn.out.mono hB.out.size)).trans hB5)⟩
          case measure => simp [intOf]; omega
      · obtain rfl : k = l.length := by omega
        have hf := Lib.hid (show rest (fun e => decide (e = (x, y))) (l.take l.length) = rest (fun e => decide (e = (x, y))) l by rw [List.take_length])
        go_wp2
        go_ret2
        rw [hr.out]
        refine ⟨_, rfl, ?_, b1.out.trans (hB.out.mono b1.out.size)⟩
        have := hown.out.edgs
        rwa [hf.out] at this
end Go.Proofs.Ythelkkbjflohgaa.Ds

/- The walks through the reference's Between and Drop, and through Back. -/
import Derived.Test.YtncneoggnoiknaaWi
import Derived.Test.YtncneoggnoiknaaWj
namespace Go.Proofs.Ytncneoggnoiknaa.Du
open Go.RowKit Sp Ut Me
theorem infoR : (Try.prog.info? 30).map (fun i => (i.zero, i.size, i.bytes)) = some (some (.agg #[.int .i64 0, .string ByteArray.empty]), 2, 24) := by kernel_rfl
set_option maxHeartbeats 2000000 in
theorem back_any {w : World} {v : Value} {l : List E} (hl : Ents w v l) (hn : l.length ≤ 1000) : Calls Try.prog 19 #[v] w (GivesR 30 w l) := by
  rcases hl with ⟨rfl, a, cap, rfl, ha⟩ | ⟨h0, b, o, cap, rfl, hlt, hcap, hcell⟩
  · go_enter Try.func19, Try.ntmps19
    go_wp2
    go_rounds 1
    go_ret
    exact ⟨_, rfl, OwnR.nil _ _ _, Below.refl _ _⟩
  · have HC := Lib.hid hcell
    clear hcell
    go_enter Try.func19, Try.ntmps19
    go_wp2
    go_loopw [3, 4] (fun s i wr => ∃ k : Nat, k ≤ l.length ∧ i = .int .i64 k ∧ Hid (OwnR 30 wr w.heap.size s (l.take k)) ∧ Hid (Below w.heap.size w wr)) (fun _ i _ => l.length - (intOf i).toNat)
    case atStart => exact ⟨0, by omega, rfl, Lib.hid (OwnR.nil _ _ _), Lib.hid (Below.refl _ _)⟩
    case round =>
      obtain ⟨k, k1, rfl, hO, hB⟩ := hrel
      have hBw := hB.out
      by_cases hk : k < l.length
      · obtain ⟨c1, c2⟩ := HC.out k hk
        have c1 := (hBw.cell (p := ⟨b, o + k * 2, none⟩) hlt).trans c1
        have c2 := (hBw.cell (p := ⟨b, o + k * 2 + 1, none⟩) hlt).trans c2
        have i2 : (k : Int) < (l.length : Int) := by omega
        have i3 : (0 : Int) ≤ (k : Int) := by omega
        obtain ⟨x, s, hxs⟩ : ∃ x s, l[k] = (x, s) := ⟨_, _, rfl⟩
        rw [hxs] at c1 c2
        have HT := Lib.hid (show l.take (k + 1) = l.take k ++ [(x, s)] by rw [List.take_succ_eq_append_getElem hk, hxs])
        have hle : (l.take k).length ≤ l.length := by rw [List.length_take]; omega
        have HLE := Lib.hid hle
        clear hxs hBw hle
        go_wp2_with (at_builtin; refine push_ent infoR Try.underlying27 rfl _ _ rfl w.heap.size _ (l.take k) rfl hO.out _ rfl (by simp) (by have := HLE.out; omega) hB.out.size fun v' w' ho hb => ?_)
        go_roundw
        case rel => exact ⟨k + 1, by omega, by go_num, Lib.hid (by rw [HT.out]; exact ho), Lib.hid (hB.out.trans hb)⟩
        case measure => simp [intOf]; omega
      · obtain rfl : k = l.length := by omega
        clear hBw
        go_wp2
        go_ret
        have ho := hO.out
        rw [List.take_length] at ho
        exact ⟨_, rfl, ho, hB.out⟩
set_option maxHeartbeats 4000000 in
theorem rbtw_any {w : World} {v : Value} {l : List E} (a b' : Int) (hl : Ents w v l) (hn : l.length ≤ 1000) : Calls Try.prog 21 #[v, .int .i64 a, .int .i64 b'] w (GivesR 30 w (btw a b' l)) := by
  rcases hl with ⟨rfl, a0, cap, rfl, ha⟩ | ⟨h0, b, o, cap, rfl, hlt, hcap, hcell⟩
  · go_enter Try.func21, Try.ntmps21
    go_wp2
    go_rounds 1
    go_ret
    exact ⟨_, rfl, OwnR.nil _ _ _, Below.refl _ _⟩
  · have HC := Lib.hid hcell
    clear hcell
    go_enter Try.func21, Try.ntmps21
    go_wp2
    go_loopw [7, 8] (fun s i wr => ∃ k : Nat, k ≤ l.length ∧ i = .int .i64 k ∧ Hid (OwnR 30 wr w.heap.size s (btw a b' (l.take k))) ∧ Hid (Below w.heap.size w wr)) (fun _ i _ => l.length - (intOf i).toNat)
    case atStart => exact ⟨0, by omega, rfl, Lib.hid (OwnR.nil _ _ _), Lib.hid (Below.refl _ _)⟩
    case round =>
      obtain ⟨k, k1, rfl, hO, hB⟩ := hrel
      have hBw := hB.out
      by_cases hk : k < l.length
      · obtain ⟨c1, c2⟩ := HC.out k hk
        have c1 := (hBw.cell (p := ⟨b, o + k * 2, none⟩) hlt).trans c1
        have c2 := (hBw.cell (p := ⟨b, o + k * 2 + 1, none⟩) hlt).trans c2
        have i2 : (k : Int) < (l.length : Int) := by omega
        have i3 : (0 : Int) ≤ (k : Int) := by omega
        obtain ⟨x, s, hxs⟩ : ∃ x s, l[k] = (x, s) := ⟨_, _, rfl⟩
        rw [hxs] at c1 c2
        have hbt := btw_take a b' l k hk
        rw [hxs] at hbt
        have HLE := Lib.hid (btw_len a b' l k)
        clear hxs hBw
        by_cases h1 : a ≤ x
        · by_cases h2 : x < b'
          · rw [if_pos ⟨h1, h2⟩] at hbt
            have HBT := Lib.hid hbt
            clear hbt
            go_wp2_with (at_builtin; refine push_ent infoR Try.underlying27 rfl _ _ rfl w.heap.size _ (btw a b' (l.take k)) rfl hO.out _ rfl (by simp) (by have := HLE.out; omega) hB.out.size fun v' w' ho hb => ?_)
            go_roundw
            case rel => exact ⟨k + 1, by omega, by go_num, Lib.hid (by rw [HBT.out]; exact ho), Lib.hid (hB.out.trans hb)⟩
            case measure => simp [intOf]; omega
          · rw [if_neg (fun h => h2 h.2), List.append_nil] at hbt
            have HBT := Lib.hid hbt
            clear hbt
            go_wp2
            go_roundw
            case rel => exact ⟨k + 1, by omega, by go_num, Lib.hid (by rw [HBT.out]; exact hO.out), hB⟩
            case measure => simp [intOf]; omega
        · rw [if_neg (fun h => h1 h.1), List.append_nil] at hbt
          have HBT := Lib.hid hbt
          clear hbt
          go_wp2
          go_roundw
          case rel => exact ⟨k + 1, by omega, by go_num, Lib.hid (by rw [HBT.out]; exact hO.out), hB⟩
          case measure => simp [intOf]; omega
      · obtain rfl : k = l.length := by omega
        clear hBw
        go_wp2
        go_ret
        have ho := hO.out
        rw [List.take_length] at ho
        exact ⟨_, rfl, ho, hB.out⟩
def eraF (l : List E) (e : E) : List E := l.filter fun x => decide (x ≠ e)
theorem eraF_take (l : List E) (e : E) (k : Nat) (hk : k < l.length) : eraF (l.take (k + 1)) e = eraF (l.take k) e ++ if l[k] = e then [] else [l[k]] := by
  unfold eraF
  rw [List.take_succ_eq_append_getElem hk, List.filter_append]
  congr 1
  by_cases h : l[k] = e
  · rw [if_pos h, List.filter_cons_of_neg (by simpa using h)]; rfl
  · rw [if_neg h, List.filter_cons_of_pos (by simpa using h)]; rfl
theorem eraF_len (l : List E) (e : E) (k : Nat) : (eraF (l.take k) e).length ≤ l.length := by
  unfold eraF
  have h1 := List.length_filter_le (fun x : E => decide (x ≠ e)) (l.take k)
  have h2 : (l.take k).length ≤ l.length := by rw [List.length_take]; omega
  omega
/-- a list and whether: told as two results -/
def GivesB (w : World) (l : List E) (q : Bool) (e : Ending) (w' : World) : Prop := ∃ v, e = .returned (.tuple #[v, .bool q]) ∧ OwnR 30 w' w.heap.size v l ∧ Below w.heap.size w w'
set_option maxHeartbeats 4000000 in
theorem rdrop_any {w : World} {v : Value} {l : List E} (y : Int) (t : ByteArray) (hl : Ents w v l) (hn : l.length ≤ 1000) : Calls Try.prog 14 #[v, .agg #[.int .i64 y, .string t]] w (GivesB w (eraF l (y, t)) (hasE l (y, t))) := by
  have FH := Lib.hid (fun W (hB : Below w.heap.size w W) => rhas_any (w := W) y t (hl.below hB) (by omega))
  rcases hl with ⟨rfl, a0, cap, rfl, ha⟩ | ⟨h0, b, o, cap, rfl, hlt, hcap, hcell⟩
  · go_enter Try.func14, Try.ntmps14
    go_wp2
    go_rounds 1
    go_rounds 1
    go_ret2
    exact ⟨_, rfl, OwnR.nil _ _ _, by (repeat' (first | assumption | exact Below.refl _ _ | apply Below.next_alloc | apply Below.drew | (apply Below.next; rotate_left; assumption)))⟩
  · have HC := Lib.hid hcell
    clear hcell
    have hbb := boxed2 (Below.refl (w.alloc (.cells #[.int .i64 y, .string t] 30)).heap.size (w.alloc (.cells #[.int .i64 y, .string t] 30)))
    obtain ⟨W0, hW0⟩ : ∃ W0, W0 = w.alloc (.cells #[.int .i64 y, .string t] 30) := ⟨_, rfl⟩
    have hB0 : Below w.heap.size w W0 := by rw [hW0]; exact (Below.refl _ w).alloc (Nat.le_refl _) _
    rw [← hW0] at hbb
    obtain ⟨q0, q1, q2⟩ := hbb
    go_enter Try.func14, Try.ntmps14
    go_wp2
    go_loopw [6, 7] (fun r i wr => ∃ k : Nat, k ≤ l.length ∧ i = .int .i64 k ∧ Hid (OwnR 30 wr W0.heap.size r (eraF (l.take k) (y, t))) ∧ Hid (Below W0.heap.size W0 wr)) (fun _ i _ => l.length - (intOf i).toNat)
    case atStart => exact ⟨0, by omega, rfl, Lib.hid (OwnR.nil _ _ _), Lib.hid (by rw [hW0]; exact Below.refl _ _)⟩
    case round =>
      obtain ⟨k, k1, rfl, hO, hB⟩ := hrel
      have hBw : Below w.heap.size w wr := hB0.trans (hB.out.mono hB0.size)
      have b1 := (hB.out.cell (p := ⟨w.heap.size, 0, none⟩) q0).trans q1
      have b2 := (hB.out.cell (p := ⟨w.heap.size, 1, none⟩) q0).trans q2
      by_cases hk : k < l.length
      · obtain ⟨c1, c2⟩ := HC.out k hk
        have c1 := (hBw.cell (p := ⟨b, o + k * 2, none⟩) hlt).trans c1
        have c2 := (hBw.cell (p := ⟨b, o + k * 2 + 1, none⟩) hlt).trans c2
        have i2 : (k : Int) < (l.length : Int) := by omega
        have i3 : (0 : Int) ≤ (k : Int) := by omega
        obtain ⟨x, s, hxs⟩ : ∃ x s, l[k] = (x, s) := ⟨_, _, rfl⟩
        rw [hxs] at c1 c2
        have het := eraF_take l (y, t) k hk
        rw [hxs] at het
        have HLE := Lib.hid (eraF_len l (y, t) k)
        clear hxs hBw
        by_cases he : ((x, s) : E) = (y, t)
        · rw [if_pos he, List.append_nil] at het
          have HET := Lib.hid het
          have EQ := fun W => eqR_is (decide_eq_true he) W
          clear het he
          go_wp2
          go_quiet (fail)
          go_wp2
          go_roundw
          case rel => exact ⟨k + 1, by omega, by go_num, Lib.hid (by rw [HET.out]; exact hO.out.below (Base.below_drewN (Below.refl _ _) _)), Lib.hid (Base.below_drewN hB.out _)⟩
          case measure => simp [intOf]; omega
        · rw [if_neg he] at het
          have HET := Lib.hid het
          have EQ := fun W => eqR_is (decide_eq_false he) W
          clear het he
          go_wp2
          go_quiet (fail)
          go_wp2_with (at_builtin; refine push_ent infoR Try.underlying27 rfl _ _ rfl W0.heap.size _ (eraF (l.take k) (y, t)) rfl (hO.out.below (Base.below_drewN (Below.refl _ _) _)) _ rfl (by simp) (by have := HLE.out; omega) hB.out.size fun v' w' ho hb => ?_)
          go_roundw
          case rel => exact ⟨k + 1, by omega, by go_num, Lib.hid (by rw [HET.out]; exact ho), Lib.hid ((Base.below_drewN hB.out _).trans hb)⟩
          case measure => simp [intOf]; omega
      · obtain rfl : k = l.length := by omega
        have HBW := Lib.hid hBw
        clear hBw
        go_wp2_with (go_at_call 11; (with_reducible refine (FH.out _ HBW.out).mono ?_); rintro e w1 ⟨rfl, hB1⟩)
        go_ret2
        have ho := hO.out
        rw [List.take_length] at ho
        exact ⟨_, rfl, (ho.below hB1).base hB0.size, Below.next HBW.out hB1⟩
end Go.Proofs.Ytncneoggnoiknaa.Du

/- The walk through the reference's Put. -/
import Derived.Test.YtncneoggnoiknaaWm
namespace Go.Proofs.Ytncneoggnoiknaa.Du
open Go.RowKit Sp Ut Me
/-- what the document's Put makes of a list -/
def PutR (w : World) (v : Value) (l : List E) (e : E) (en : Ending) (w' : World) : Prop :=
  ∃ v', en = .returned (.tuple #[v', .bool (!hasE l e)]) ∧ Ents w' v' (putE l e) ∧ Below w.heap.size w w' ∧ (v' = v ∨ ∀ k, v'.ownBlock = some k → w.heap.size ≤ k)
theorem ents_part {w : World} {b o cap : Nat} {l : List E} (hlt : b < w.heap.size) (hcap : l.length ≤ cap) (hcell : ∀ k (hk : k < l.length), w.cell? ⟨b, o + k * 2, none⟩ = some (.int .i64 l[k].1) ∧ w.cell? ⟨b, o + k * 2 + 1, none⟩ = some (.string l[k].2)) (c : Nat) (hc : c ≤ l.length) :
    Ents w (.slice (some ⟨b, o, none⟩) c cap) (l.take c) := by
  have hl : (l.take c).length = c := by rw [List.length_take]; omega
  by_cases h0 : c = 0
  · subst h0
    exact .inl ⟨by simp, _, _, rfl, fun h => by cases h⟩
  · refine .inr ⟨by omega, b, o, cap, by rw [hl], hlt, by omega, fun k hk => ?_⟩
    rw [List.getElem_take]
    exact hcell k (by omega)
theorem ents_tail {w : World} {b o cap : Nat} {l : List E} (hlt : b < w.heap.size) (hcap : l.length ≤ cap) (hcell : ∀ k (hk : k < l.length), w.cell? ⟨b, o + k * 2, none⟩ = some (.int .i64 l[k].1) ∧ w.cell? ⟨b, o + k * 2 + 1, none⟩ = some (.string l[k].2)) (c : Nat) (hc : c ≤ l.length) :
    Ents w (.slice (some ⟨b, o + c * 2, none⟩) (l.length - c) (cap - c)) (l.drop c) := by
  have hl : (l.drop c).length = l.length - c := List.length_drop
  by_cases h0 : l.length - c = 0
  · rw [h0]
    exact .inl ⟨List.length_eq_zero_iff.1 (by omega), _, _, rfl, fun h => by cases h⟩
  · refine .inr ⟨by omega, b, o + c * 2, cap - c, by rw [hl], hlt, by omega, fun k hk => ?_⟩
    rw [List.getElem_drop, show o + c * 2 + k * 2 = o + (c + k) * 2 by omega]
    exact hcell (c + k) (by omega)
theorem rput_has {w : World} {v : Value} {l : List E} (y : Int) (t : ByteArray) (hl : Ents w v l) (hn : l.length ≤ 1000) (hh : hasE l (y, t) = true) : Calls Try.prog 12 #[v, .agg #[.int .i64 y, .string t]] w (PutR w v l (y, t)) := by
  have FH := Lib.hid (fun W (hB : Below w.heap.size w W) => rhas_any (w := W) y t (hl.below hB) (by omega))
  rw [hh] at FH
  have HL := Lib.hid hl
  have HH := Lib.hid hh
  clear hl hh
  go_enter Try.func12, Try.ntmps12
  go_wp2_with (go_at_call 11; (with_reducible refine (FH.out _ (by (repeat' (first | assumption | exact Below.refl _ _ | apply Below.next_alloc | apply Below.drew | (apply Below.next; rotate_left; assumption))))).mono ?_); rintro e w1 ⟨rfl, hB1⟩)
  go_ret2
  have hB : Below w.heap.size w w1 := by (repeat' (first | assumption | exact Below.refl _ _ | apply Below.next_alloc | apply Below.drew | (apply Below.next; rotate_left; assumption)))
  refine ⟨v, by rw [HH.out]; rfl, ?_, hB, .inl rfl⟩
  unfold putE
  rw [HH.out, if_pos rfl]
  exact HL.out.below hB
set_option maxHeartbeats 4000000 in
set_option maxRecDepth 100000 in
theorem rput_zero {w : World} (a : Option Addr) (cap : Nat) (ha : a = none → cap = 0) (y : Int) (t : ByteArray) : Calls Try.prog 12 #[.slice a 0 cap, .agg #[.int .i64 y, .string t]] w (PutR w (.slice a 0 cap) [] (y, t)) := by
  have FH := Lib.hid (fun W => rhas_any (w := W) (v := .slice a 0 cap) (l := []) y t (.inl ⟨rfl, a, cap, rfl, ha⟩) (by simp))
  rw [show hasE [] (y, t) = false from rfl] at FH
  have i5 : decide ((0 : Int) < 0) = false := rfl
  have HA := Lib.hid ha
  clear ha
  go_enter Try.func12, Try.ntmps12
  go_wp2_with (go_at_call 11; (with_reducible refine (FH.out _).mono ?_); rintro e w1 ⟨rfl, hB1⟩)
  obtain ⟨q0, q1, q2⟩ := boxed2 hB1
  have SB := Lib.hid (show ∀ W, Below w1.heap.size w1 W → W.cell? ⟨w.heap.size, 0, none⟩ = some (.int .i64 y) ∧ W.cell? ⟨w.heap.size, 1, none⟩ = some (.string t) from fun W hW => ⟨(hW.cell (p := ⟨w.heap.size, 0, none⟩) q0).trans q1, (hW.cell (p := ⟨w.heap.size, 1, none⟩) q0).trans q2⟩)
  have HBW := Lib.hid (show Below w.heap.size w w1 from by (repeat' (first | assumption | exact Below.refl _ _ | apply Below.next_alloc | apply Below.drew | (apply Below.next; rotate_left; assumption))))
  clear q1 q2 hB1
  refine wp_loop_rounds 1 ?_
  rw [rounds_succ]
  go_wp2
  go_quiet (fail)
  go_wp2_with (first
      | (at_builtin; refine push_list infoR Try.underlying27 rfl (.tmp 26) (.tmp 29) rfl w1.heap.size _ [] [] rfl (OwnR.nil _ _ _) _ rfl (.inl ⟨rfl, _, _, rfl, by intro h; first | (cases h; done) | (exact HA.out h) | (split at h <;> first | (cases h; done) | exact HA.out h)⟩) (by simp) (Nat.le_refl _) fun v1 y1 ho1 hb1 => ?_; have HY1 := Lib.hid ((Base.below_drewN (Below.refl w1.heap.size w1) _).trans hb1); have HO1 := Lib.hid ho1; obtain ⟨e1, e2⟩ := SB.out y1 HY1.out; clear ho1 hb1)
      | (at_builtin; refine push_ent infoR Try.underlying27 rfl (.tmp 31) (.tmp 33) rfl w1.heap.size _ _ rfl HO1.out _ rfl rfl (by simp) HY1.out.size fun v2 y2 ho2 hb2 => ?_; have HY2 := Lib.hid (HY1.out.trans hb2); have HO2 := Lib.hid ho2; clear ho2 hb2)
      | (at_builtin; refine push_list infoR Try.underlying27 rfl (.tmp 35) (.tmp 38) rfl w1.heap.size _ _ [] rfl HO2.out _ rfl (.inl ⟨rfl, _, _, rfl, by intro h; first | (cases h; done) | (exact HA.out h) | (split at h <;> first | (cases h; done) | exact HA.out h)⟩) (by simp) HY2.out.size fun v3 y3 ho3 hb3 => ?_; have HY3 := Lib.hid (HY2.out.trans hb3); have HO3 := Lib.hid ho3; clear ho3 hb3))
  go_ret2
  exact ⟨v3, rfl, HO3.out.ents, HBW.out.trans (HY3.out.mono HBW.out.size), .inr fun k hk => Nat.le_trans HBW.out.size (HO3.out.blk k hk).1⟩
set_option maxHeartbeats 4000000 in
set_option maxRecDepth 100000 in
theorem rput_put {w : World} {b o cap : Nat} {l : List E} (y : Int) (t : ByteArray) (h0 : 0 < l.length) (hlt : b < w.heap.size) (hcap : l.length ≤ cap) (hcell : ∀ k (hk : k < l.length), w.cell? ⟨b, o + k * 2, none⟩ = some (.int .i64 l[k].1) ∧ w.cell? ⟨b, o + k * 2 + 1, none⟩ = some (.string l[k].2))
    (hs : Sor l) (hn : l.length ≤ 1000) (hh : hasE l (y, t) = false) : Calls Try.prog 12 #[.slice (some ⟨b, o, none⟩) l.length cap, .agg #[.int .i64 y, .string t]] w (PutR w (.slice (some ⟨b, o, none⟩) l.length cap) l (y, t)) := by
  have FH := Lib.hid (fun W (hB : Below w.heap.size w W) => rhas_any (w := W) (v := .slice (some ⟨b, o, none⟩) l.length cap) (l := l) y t (Ents.below (.inr ⟨h0, b, o, cap, rfl, hlt, hcap, hcell⟩) hB) (by omega))
  rw [hh] at FH
  have hc := cnt_le l (y, t)
  have ht := fun k (hk : k < l.length) => cnt_lt hs (y, t) k hk
  have hput : putE l (y, t) = l.take (cntE l (y, t)) ++ (y, t) :: l.drop (cntE l (y, t)) := by unfold putE; rw [hh]; rfl
  obtain ⟨c, hcc⟩ : ∃ c, cntE l (y, t) = c := ⟨_, rfl⟩
  rw [hcc] at hc hput
  simp only [hcc] at ht
  have HC := Lib.hid hcell
  have HT := Lib.hid ht
  have HP := Lib.hid hput
  have HH := Lib.hid hh
  have HL1 := Lib.hid hn
  have P1 := Lib.hid (fun W (hB : Below w.heap.size w W) => ents_part (w := W) (b := b) (o := o) (cap := cap) (l := l) (Nat.lt_of_lt_of_le hlt hB.size) hcap (fun k hk => ⟨(hB.cell (p := ⟨b, o + k * 2, none⟩) hlt).trans (hcell k hk).1, (hB.cell (p := ⟨b, o + k * 2 + 1, none⟩) hlt).trans (hcell k hk).2⟩) c hc)
  have P3 := Lib.hid (fun W (hB : Below w.heap.size w W) => ents_tail (w := W) (b := b) (o := o) (cap := cap) (l := l) (Nat.lt_of_lt_of_le hlt hB.size) hcap (fun k hk => ⟨(hB.cell (p := ⟨b, o + k * 2, none⟩) hlt).trans (hcell k hk).1, (hB.cell (p := ⟨b, o + k * 2 + 1, none⟩) hlt).trans (hcell k hk).2⟩) c hc)
  have PL := Lib.hid (show (l.take c).length = c ∧ (l.drop c).length = l.length - c from ⟨by rw [List.length_take]; omega, List.length_drop⟩)
  clear hcell ht hput hcc hs hh
  go_enter Try.func12, Try.ntmps12
  go_wp2_with (go_at_call 11; (with_reducible refine (FH.out _ (by (repeat' (first | assumption | exact Below.refl _ _ | apply Below.next_alloc | apply Below.drew | (apply Below.next; rotate_left; assumption))))).mono ?_); rintro e w1 ⟨rfl, hB1⟩)
  obtain ⟨q0, q1, q2⟩ := boxed2 hB1
  have SB := Lib.hid (show ∀ W, Below w1.heap.size w1 W → W.cell? ⟨w.heap.size, 0, none⟩ = some (.int .i64 y) ∧ W.cell? ⟨w.heap.size, 1, none⟩ = some (.string t) from fun W hW => ⟨(hW.cell (p := ⟨w.heap.size, 0, none⟩) q0).trans q1, (hW.cell (p := ⟨w.heap.size, 1, none⟩) q0).trans q2⟩)
  have HBW := Lib.hid (show Below w.heap.size w w1 from by (repeat' (first | assumption | exact Below.refl _ _ | apply Below.next_alloc | apply Below.drew | (apply Below.next; rotate_left; assumption))))
  clear q1 q2 hB1
  go_loopw [7] (fun q wr => ∃ k : Nat, k ≤ c ∧ q = .int .i64 k ∧ Hid (Below w1.heap.size w1 wr)) (fun q _ => c - (intOf q).toNat)
  case atStart => exact ⟨0, by omega, rfl, Lib.hid (Below.refl _ _)⟩
  case round =>
      obtain ⟨k, hk1, rfl, hB⟩ := hrel
      have hBw : Below w.heap.size w wr := HBW.out.trans (hB.out.mono HBW.out.size)
      have hsz := hB.out.size
      have hlt2 : b < wr.heap.size := by have := hBw.size; omega
      have q3 : w.heap.size < wr.heap.size := by omega
      obtain ⟨b1, b2⟩ := SB.out wr hB.out
      by_cases hk : k < l.length
      · obtain ⟨c1, c2⟩ := HC.out k hk
        have kc := HT.out k hk
        have c1 := (hBw.cell (p := ⟨b, o + k * 2, none⟩) hlt).trans c1
        have c2 := (hBw.cell (p := ⟨b, o + k * 2 + 1, none⟩) hlt).trans c2
        have i2 : (k : Int) < (l.length : Int) := by omega
        have i3 : (0 : Int) ≤ (k : Int) := by omega
        obtain ⟨x, s, hxs⟩ : ∃ x s, l[k] = (x, s) := ⟨_, _, rfl⟩
        rw [hxs] at c1 c2
        rw [hxs] at kc
        clear hxs
        have i5 : decide ((k : Int) < (l.length : Int)) = true := decide_eq_true i2
        have SL := Lib.hid (show ∀ W, Below wr.heap.size wr W → W.cell? ⟨w.heap.size, 0, none⟩ = some (.int .i64 y) ∧ W.cell? ⟨w.heap.size, 1, none⟩ = some (.string t) ∧ W.cell? ⟨b, o + k * 2, none⟩ = some (.int .i64 x) ∧ W.cell? ⟨b, o + k * 2 + 1, none⟩ = some (.string s) from fun W hW =>
          ⟨(hW.cell (p := ⟨w.heap.size, 0, none⟩) q3).trans b1, (hW.cell (p := ⟨w.heap.size, 1, none⟩) q3).trans b2, (hW.cell (p := ⟨b, o + k * 2, none⟩) hlt2).trans c1, (hW.cell (p := ⟨b, o + k * 2 + 1, none⟩) hlt2).trans c2⟩)
        have HBw := Lib.hid hBw
        clear hBw
        by_cases hkc : k < c
        · have F := Lib.hid (rless_at x y s t _ (kc.trans (decide_eq_true hkc)))
          clear kc b1 b2 c1 c2
          go_wp2
          go_region_held3 (fun w' => w'.cell? ⟨w.heap.size, 0, none⟩ = some (.int .i64 y) ∧ w'.cell? ⟨w.heap.size, 1, none⟩ = some (.string t) ∧ w'.cell? ⟨b, o + k * 2, none⟩ = some (.int .i64 x) ∧ w'.cell? ⟨b, o + k * 2 + 1, none⟩ = some (.string s)) (first | ((with_reducible refine SL.out _ ?_); (with_reducible (repeat' (first | assumption | exact Below.refl _ _ | apply Below.next_alloc | apply Below.drew | (apply Below.next; rotate_left; assumption)))); done) | go_keep)
            (first
              | (go_at_call 25; (with_reducible refine (F.out _).mono ?_); rintro e w3 ⟨rfl, hB3⟩))
          go_wp2
          go_roundw
          case rel => exact ⟨k + 1, by omega, by go_num, Lib.hid (Below.next hB.out (by (repeat' (first | assumption | exact Below.refl _ _ | apply Below.next_alloc | apply Below.drew | (apply Below.next; rotate_left; assumption)))))⟩
          case measure => simp [intOf]; omega
        · obtain rfl : k = c := by omega
          have F := Lib.hid (rless_at x y s t _ (kc.trans (decide_eq_false hkc)))
          have i7 : ¬ (cap = k) := by omega
          clear kc b1 b2 c1 c2
          go_wp2
          go_region_held3 (fun w' => w'.cell? ⟨w.heap.size, 0, none⟩ = some (.int .i64 y) ∧ w'.cell? ⟨w.heap.size, 1, none⟩ = some (.string t) ∧ w'.cell? ⟨b, o + k * 2, none⟩ = some (.int .i64 x) ∧ w'.cell? ⟨b, o + k * 2 + 1, none⟩ = some (.string s)) (first | ((with_reducible refine SL.out _ ?_); (with_reducible (repeat' (first | assumption | exact Below.refl _ _ | apply Below.next_alloc | apply Below.drew | (apply Below.next; rotate_left; assumption)))); done) | go_keep)
            (first
              | (go_at_call 25; (with_reducible refine (F.out _).mono ?_); rintro e w3 ⟨rfl, hB3⟩))
          have HB3 := Lib.hid (show Below w1.heap.size w1 w3 from Below.next hB.out (by (repeat' (first | assumption | exact Below.refl _ _ | apply Below.next_alloc | apply Below.drew | (apply Below.next; rotate_left; assumption)))))
          go_wp2_with (first
      | (at_builtin; refine push_list infoR Try.underlying27 rfl (.tmp 26) (.tmp 29) rfl w1.heap.size _ [] (l.take k) rfl (OwnR.nil _ _ _) _ rfl (P1.out _ (HBW.out.trans (HB3.out.mono HBW.out.size))) (by have := PL.out; have := HL1.out; simp only [List.length_nil]; omega) HB3.out.size fun v1 y1 ho1 hb1 => ?_; have HY1 := Lib.hid (HB3.out.trans hb1); have HO1 := Lib.hid ho1; obtain ⟨e1, e2⟩ := SB.out y1 HY1.out; clear ho1 hb1)
      | (at_builtin; refine push_ent infoR Try.underlying27 rfl (.tmp 31) (.tmp 33) rfl w1.heap.size _ _ rfl HO1.out _ rfl rfl (by have := PL.out; have := HL1.out; simp only [List.length_append, List.length_nil]; omega) HY1.out.size fun v2 y2 ho2 hb2 => ?_; have HY2 := Lib.hid (HY1.out.trans hb2); have HO2 := Lib.hid ho2; clear ho2 hb2)
      | (at_builtin; refine push_list infoR Try.underlying27 rfl (.tmp 35) (.tmp 38) rfl w1.heap.size _ _ (l.drop k) rfl HO2.out _ rfl (P3.out _ (HBW.out.trans (HY2.out.mono HBW.out.size))) (by have := PL.out; have := HL1.out; simp only [List.length_append, List.length_nil, List.length_cons]; omega) HY2.out.size fun v3 y3 ho3 hb3 => ?_; have HY3 := Lib.hid (HY2.out.trans hb3); have HO3 := Lib.hid ho3; clear ho3 hb3))
          go_ret2
          have ho := HO3.out.ents
          exact ⟨v3, by rw [HH.out]; rfl, by rw [HP.out]; simpa using ho, HBW.out.trans (HY3.out.mono HBW.out.size), .inr fun j hj => Nat.le_trans HBW.out.size (HO3.out.blk j hj).1⟩
      · obtain rfl : k = c := by omega
        obtain rfl : k = l.length := by omega
        have i5 : decide ((l.length : Int) < (l.length : Int)) = false := decide_eq_false (by omega)
        have HBw := Lib.hid hBw
        clear hBw b1 b2
        rw [List.drop_length] at HP
        go_wp2
        go_quiet (fail)
        go_wp2_with (first
      | (at_builtin; refine push_list infoR Try.underlying27 rfl (.tmp 26) (.tmp 29) rfl w1.heap.size _ [] (l.take l.length) rfl (OwnR.nil _ _ _) _ rfl (P1.out _ (HBW.out.trans ((Base.below_drewN hB.out _).mono HBW.out.size))) (by have := PL.out; have := HL1.out; simp only [List.length_nil]; omega) hB.out.size fun v1 y1 ho1 hb1 => ?_; have HY1 := Lib.hid ((Base.below_drewN hB.out _).trans hb1); have HO1 := Lib.hid ho1; obtain ⟨e1, e2⟩ := SB.out y1 HY1.out; clear ho1 hb1)
      | (at_builtin; refine push_ent infoR Try.underlying27 rfl (.tmp 31) (.tmp 33) rfl w1.heap.size _ _ rfl HO1.out _ rfl rfl (by have := PL.out; have := HL1.out; simp only [List.length_append, List.length_nil]; omega) HY1.out.size fun v2 y2 ho2 hb2 => ?_; have HY2 := Lib.hid (HY1.out.trans hb2); have HO2 := Lib.hid ho2; clear ho2 hb2)
      | (at_builtin; refine push_list infoR Try.underlying27 rfl (.tmp 35) (.tmp 38) rfl w1.heap.size _ _ [] rfl HO2.out _ rfl (.inl ⟨rfl, _, _, rfl, by intro h; split at h <;> cases h⟩) (by have := PL.out; have := HL1.out; simp only [List.length_append, List.length_nil, List.length_cons]; omega) HY2.out.size fun v3 y3 ho3 hb3 => ?_; have HY3 := Lib.hid (HY2.out.trans hb3); have HO3 := Lib.hid ho3; clear ho3 hb3))
        all_goals
          go_ret2
          have ho := HO3.out.ents
          exact ⟨v3, by rw [HH.out]; rfl, by rw [HP.out]; simpa using ho, HBW.out.trans (HY3.out.mono HBW.out.size), .inr fun j hj => Nat.le_trans HBW.out.size (HO3.out.blk j hj).1⟩
theorem rput_any {w : World} {v : Value} {l : List E} (y : Int) (t : ByteArray) (hl : Ents w v l) (hs : Sor l) (hn : l.length ≤ 1000) : Calls Try.prog 12 #[v, .agg #[.int .i64 y, .string t]] w (PutR w v l (y, t)) := by
  cases hh : hasE l (y, t)
  · rcases hl with ⟨rfl, a, cap, rfl, ha⟩ | ⟨h0, b, o, cap, rfl, hlt, hcap, hcell⟩
    · exact rput_zero a cap ha y t
    · exact rput_put y t h0 hlt hcap hcell hs hn hh
  · exact rput_has y t hl hn hh
end Go.Proofs.Ytncneoggnoiknaa.Du

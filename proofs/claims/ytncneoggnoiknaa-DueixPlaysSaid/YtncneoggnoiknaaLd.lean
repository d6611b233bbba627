/- The walk through DueixPlays. -/
import Derived.Test.YtncneoggnoiknaaLp
namespace Go.Proofs.Ytncneoggnoiknaa.Du
open Go.RowKit Sp Ut Me
theorem few_yes {w : World} {v : Value} {l : List Dd} (hl : Deeds w v l) (hf : fewD l) : Calls Try.prog 7 #[v] w fun e w' => e = .returned (.bool true) ∧ w = w' :=
  (few_any hl).mono fun e w' ⟨h1, h2⟩ => ⟨by
    rcases h1 with ⟨h3, _⟩ | ⟨_, h3⟩
    · exact h3
    · exact absurd hf h3, h2⟩
theorem few_no {w : World} {v : Value} {l : List Dd} (hl : Deeds w v l) (hf : ¬ fewD l) : Calls Try.prog 7 #[v] w fun e w' => e = .returned (.bool false) ∧ w = w' :=
  (few_any hl).mono fun e w' ⟨h1, h2⟩ => ⟨by
    rcases h1 with ⟨_, h3⟩ | ⟨h3, _⟩
    · exact absurd h3 hf
    · exact h3, h2⟩
theorem same_self {w : World} {v v' : Value} {m : List E} (hl : Ents w v m) (hm : Ents w v' m) (hn : m.length ≤ 1000) : Calls Try.prog 18 #[v, v'] w fun e w' => e = .returned (.bool true) ∧ Below w.heap.size w w' := by
  have := rsame_any hl hm (by omega) (by omega)
  rw [show sameE m m = true from decide_eq_true rfl] at this
  exact this
theorem ents_lt {w : World} {v : Value} {l : List E} (h : Ents w v l) (h0 : l ≠ []) : ∀ j, v.ownBlock = some j → j < w.heap.size := by
  rcases h with ⟨rfl, _⟩ | ⟨_, b, o, cap, rfl, hlt, _⟩
  · exact absurd rfl h0
  · intro j hj; cases hj; exact hlt
theorem put_ne (m : List E) (e : E) : putE m e ≠ [] := by
  unfold putE
  split
  · rename_i h
    rintro rfl
    cases h
  · unfold insE; simp
theorem nxt_is (o : Option E) : ∃ ax s ab, nxtV o = .tuple #[.agg #[.int .i64 ax, .string s], .bool ab] := by
  cases o with
  | none => exact ⟨0, ByteArray.empty, false, rfl⟩
  | some y => exact ⟨y.1, y.2, true, rfl⟩
theorem put_out {W y : World} {v v' : Value} {l : List E} {O : Nat → Prop} {n : Nat} (h : Ents y v' l) (h0 : l ≠ []) (hor : v' = v ∨ ∀ k, v'.ownBlock = some k → W.heap.size ≤ k) (hm : ∀ j, v.ownBlock = some j → ¬ O j ∧ j < n) (hlt : ∀ k, O k → k < n) (hn : n ≤ W.heap.size) :
    ∀ j, v'.ownBlock = some j → ¬ O j ∧ j < y.heap.size := fun j hj => ⟨by
    rcases hor with rfl | h1
    · exact (hm j hj).1
    · intro ho
      have := hlt j ho
      have := h1 j hj
      omega, ents_lt h h0 j hj⟩
theorem drop_out {T : TypeId} {y : World} {v' : Value} {l : List E} {O : Nat → Prop} {n B : Nat} (h : OwnR T y B v' l) (hlt : ∀ k, O k → k < n) (hn : n ≤ B) :
    ∀ j, v'.ownBlock = some j → ¬ O j ∧ j < y.heap.size := fun j hj => ⟨fun ho => by
    have := hlt j ho
    have := (h.blk j hj).1
    omega, (h.blk j hj).2⟩
set_option maxHeartbeats 8000000 in
set_option maxRecDepth 100000 in
theorem plays_any {w : World} {v : Value} {l : List Dd} (hl : Deeds w v l) : Calls Try.prog 3 #[v] w fun e w' => e = .returned (.bool true) ∧ Below w.heap.size w w' := by
  by_cases hf : fewD l
  · have FY := Lib.hid (few_yes hl hf)
    obtain ⟨va, vc, rfl⟩ := hl.slice
    have HL := Lib.hid hl
    have h80 := hf.1
    clear hl hf
    go_enter Try.func3, Try.ntmps3
    go_wp2_with (first
      | (go_at_call 7; (with_reducible refine FY.out.mono ?_); rintro e w0 ⟨rfl, rfl⟩)
      | (go_at_call 9; (with_reducible refine (newH _).mono ?_); rintro e w1 ⟨p, O0, rfl, hI0, hO0, hB1⟩))
    have I0 := Lib.hid hI0
    have P0 := Lib.hid hO0
    have B1 := Lib.hid hB1
    clear hI0 hO0 hB1
    go_loopw [4, 5] (fun mv q wr => ∃ (k : Nat) (O : Nat → Prop) (m : List E), k ≤ l.length ∧ q = .int .i64 k ∧ Hid (Has wr p O m) ∧ Hid (∀ j, O j → w.heap.size ≤ j) ∧ Hid (Ents wr mv m) ∧ Hid (∀ j, mv.ownBlock = some j → ¬ O j ∧ j < wr.heap.size) ∧ m.length ≤ k ∧ Hid (Below w.heap.size w wr)) (fun _ q _ => l.length - (intOf q).toNat)
    case atStart => exact ⟨0, O0, [], by omega, rfl, I0, P0, Lib.hid (.inl ⟨rfl, none, 0, rfl, fun _ => rfl⟩), Lib.hid (fun j hj => by cases hj), by simp, B1⟩
    case round =>
      obtain ⟨k, O, m, hk1, rfl, hI, hO, hE, hmvn, hmk, hB⟩ := hrel
      have hsz := hB.out.size
      have HML := Lib.hid (show m.length ≤ 1000 by omega)
      have hOlt := Lib.hid hI.out.lt
      obtain ⟨ma, mc, rfl⟩ := hE.out.slice
      by_cases hk : k < l.length
      · rcases HL.out with ⟨hnil, _⟩ | ⟨hpos, b, o, cc, hvv, hlt, hcell⟩
        · rw [hnil] at hk; simp at hk
        · cases hvv
          obtain ⟨⟨c0, c1, c2, c3⟩, hk0, hk255⟩ := hcell k hk
          obtain ⟨kd, x, s, to, hdd⟩ : ∃ kd x s to, l[k] = (kd, (x, s), to) := ⟨_, _, _, _, rfl⟩
          rw [hdd] at c0 c1 c2 c3 hk0 hk255
          simp only at c0 c1 c2 c3 hk0 hk255
          replace c0 := (hB.out.cell (p := ⟨b, o + k * 4, none⟩) hlt).trans c0
          replace c1 := (hB.out.cell (p := ⟨b, o + k * 4 + 1, none⟩) hlt).trans c1
          replace c2 := (hB.out.cell (p := ⟨b, o + k * 4 + 2, none⟩) hlt).trans c2
          replace c3 := (hB.out.cell (p := ⟨b, o + k * 4 + 3, none⟩) hlt).trans c3
          have hbw : b < wr.heap.size := by omega
          have i2 : (k : Int) < (l.length : Int) := by omega
          have i3 : (0 : Int) ≤ (k : Int) := by omega
          clear hcell hdd
          have hW : Below wr.heap.size wr (wr.alloc (.cells #[.int .i64 x, .string s] 29)) := (Below.refl _ _).alloc (Nat.le_refl _) _
          obtain ⟨zb, d0, d1⟩ := boxed2 (w := wr) (a := .int .i64 x) (b := .string s) (t := 29) (Below.refl _ _)
          go_wp2
          generalize wr.alloc (.cells #[.int .i64 x, .string s] 29) = W1 at *
          replace c0 := (hW.cell (p := ⟨b, o + k * 4, none⟩) hbw).trans c0
          replace c1 := (hW.cell (p := ⟨b, o + k * 4 + 1, none⟩) hbw).trans c1
          replace c2 := (hW.cell (p := ⟨b, o + k * 4 + 2, none⟩) hbw).trans c2
          replace c3 := (hW.cell (p := ⟨b, o + k * 4 + 3, none⟩) hbw).trans c3
          have hbW : b < W1.heap.size := Nat.lt_of_lt_of_le hbw hW.size
          have SL := Lib.hid (show ∀ W, Below W1.heap.size W1 W → W.cell? ⟨wr.heap.size, 0, none⟩ = some (.int .i64 x) ∧ W.cell? ⟨wr.heap.size, 1, none⟩ = some (.string s) ∧ W.cell? ⟨b, o + k * 4, none⟩ = some (.int .u8 kd) ∧ W.cell? ⟨b, o + k * 4 + 1, none⟩ = some (.int .i64 x) ∧ W.cell? ⟨b, o + k * 4 + 2, none⟩ = some (.string s) ∧ W.cell? ⟨b, o + k * 4 + 3, none⟩ = some (.int .i64 to) from fun W hW =>
            ⟨(hW.cell (p := ⟨wr.heap.size, 0, none⟩) zb).trans d0, (hW.cell (p := ⟨wr.heap.size, 1, none⟩) zb).trans d1, (hW.cell (p := ⟨b, o + k * 4, none⟩) hbW).trans c0, (hW.cell (p := ⟨b, o + k * 4 + 1, none⟩) hbW).trans c1, (hW.cell (p := ⟨b, o + k * 4 + 2, none⟩) hbW).trans c2, (hW.cell (p := ⟨b, o + k * 4 + 3, none⟩) hbW).trans c3⟩)
          obtain ⟨q, hq⟩ : ∃ q, hasE m (x, s) = q := ⟨_, rfl⟩
          have CHX := Lib.hid (fun (W : World) (h : Below wr.heap.size wr W) => hasH x s q (hI.out.below h) HML.out hq)
          have CRX := Lib.hid (fun (W : World) (h : Below wr.heap.size wr W) => show Calls Try.prog 11 #[_, .agg #[.int .i64 x, .string s]] W fun e w' => e = .returned (.bool q) ∧ Below W.heap.size W w' from hq ▸ rhas_any x s (hE.out.below h) (Nat.le_trans HML.out (by decide)))
          have HQ := Lib.hid hq
          have HIK := Lib.hid (And.intro hk0 hk255)
          have SZ := Lib.hid hsz
          have BWR := hW
          clear d0 d1 c0 c1 c2 c3 hW hq hk0 hk255 hsz
          go_region_held3 (fun w' => w'.cell? ⟨wr.heap.size, 0, none⟩ = some (.int .i64 x) ∧ w'.cell? ⟨wr.heap.size, 1, none⟩ = some (.string s) ∧ w'.cell? ⟨b, o + k * 4, none⟩ = some (.int .u8 kd) ∧ w'.cell? ⟨b, o + k * 4 + 1, none⟩ = some (.int .i64 x) ∧ w'.cell? ⟨b, o + k * 4 + 2, none⟩ = some (.string s) ∧ w'.cell? ⟨b, o + k * 4 + 3, none⟩ = some (.int .i64 to)) (first | ((with_reducible refine SL.out _ ?_); (with_reducible (repeat' (first | assumption | exact Below.refl _ _ | apply Below.next_alloc | apply Below.drew | (apply Below.next; rotate_left; assumption)))); done) | go_keep)
          (first
            | (go_at_call 10; (with_reducible refine (CHX.out _ (by (with_reducible (repeat' (first | assumption | exact Below.refl _ _ | apply Below.next_alloc | apply Below.drew | (apply Below.next; rotate_left; assumption)))))).mono ?_); rintro e y1 ⟨rfl, hb1⟩)
            | (go_at_call 11; (with_reducible refine (CRX.out _ (by (with_reducible (repeat' (first | assumption | exact Below.refl _ _ | apply Below.next_alloc | apply Below.drew | (apply Below.next; rotate_left; assumption)))))).mono ?_); rintro e y2 ⟨rfl, hb2⟩))
          clear CHX CRX HQ
          obtain ⟨d0, d1, c0, c1, c2, c3⟩ := SL.out y2 (by (with_reducible (repeat' (first | assumption | exact Below.refl _ _ | apply Below.next_alloc | apply Below.drew | (apply Below.next; rotate_left; assumption)))))
          obtain ⟨r, hr⟩ : ∃ r, kd.tmod 4 = r := ⟨_, rfl⟩
          have hr4 : r = 0 ∨ r = 1 ∨ r = 2 ∨ r = 3 := by
            rw [Int.tmod_eq_emod_of_nonneg HIK.out.1] at hr
            omega
          rcases hr4 with rfl | rfl | rfl | rfl
          · have e0 : (kd.tmod 4 == 0) = true := by rw [hr]; rfl
            clear hr
            have HNK := Lib.hid (show (putE m (x, s)).length ≤ k + 1 from Nat.le_trans (put_length m (x, s)) (by omega))
            have HNL := Lib.hid (show (putE m (x, s)).length ≤ 1000 from Nat.le_trans HNK.out (by omega))
            go_wp2_with (first
              | (go_at_call 12; (with_reducible refine (rput_any x s (hE.out.below (by (with_reducible (repeat' (first | assumption | exact Below.refl _ _ | apply Below.next_alloc | apply Below.drew | (apply Below.next; rotate_left; assumption)))))) hI.out.sor HML.out).mono ?_); rintro e y3 ⟨mv2, rfl, hE3, hb3, hor⟩; have HNB := Lib.hid (put_out hE3 (put_ne _ _) hor hmvn.out hOlt.out (show Below wr.heap.size wr _ from (by (with_reducible (repeat' (first | assumption | exact Below.refl _ _ | apply Below.next_alloc | apply Below.drew | (apply Below.next; rotate_left; assumption)))))).size); obtain ⟨a3, q3, rfl⟩ := hE3.slice; clear d0 d1 hor; obtain ⟨d0, d1, -⟩ := SL.out y3 (by (with_reducible (repeat' (first | assumption | exact Below.refl _ _ | apply Below.next_alloc | apply Below.drew | (apply Below.next; rotate_left; assumption))))); have HY3 := Lib.hid (show Below wr.heap.size wr y3 from (by (with_reducible (repeat' (first | assumption | exact Below.refl _ _ | apply Below.next_alloc | apply Below.drew | (apply Below.next; rotate_left; assumption)))))); have E3 := Lib.hid hE3; have CP := Lib.hid (putH x s _ _ (hI.out.below HY3.out) HML.out rfl rfl); clear hE3)
              | (go_at_call 13; (with_reducible refine (CP.out).mono ?_); rintro e yN ⟨rfl, O2, hI4, hV4⟩; have HI := Lib.hid hI4; have HN2 := Lib.hid (fun j (hj : (Value.slice a3 _ q3).ownBlock = some j) => And.intro (fun ho => (hV4.own j ho).elim (HNB.out j hj).1 (fun h => absurd (HNB.out j hj).2 (Nat.not_lt.2 h))) (Nat.lt_of_lt_of_le (HNB.out j hj).2 hV4.size)); have HO2 := Lib.hid (hV4.above hO.out (Nat.le_trans SZ.out HY3.out.size)); have HBN := Lib.hid ((hB.out.trans (HY3.out.mono SZ.out)).trans (hV4.below hO.out (Nat.le_trans SZ.out HY3.out.size))); have HE := Lib.hid (E3.out.moved hV4 (fun j hj => (HNB.out j hj).1)); clear CP hI4 hV4 d0 d1)
              | (go_at_call 22; (with_reducible refine (lenH _ (HI.out.below (by (with_reducible (repeat' (first | assumption | exact Below.refl _ _ | apply Below.next_alloc | apply Below.drew | (apply Below.next; rotate_left; assumption)))))) rfl).mono ?_); rintro e y5 ⟨rfl, rfl⟩)
              | (go_at_call 23; (with_reducible refine (allH (HI.out.below (by (with_reducible (repeat' (first | assumption | exact Below.refl _ _ | apply Below.next_alloc | apply Below.drew | (apply Below.next; rotate_left; assumption)))))) HNL.out).mono ?_); rintro e y6 ⟨v6, rfl, ho6, hb6⟩; have CB := Lib.hid (back_any ho6.ents HNL.out); clear ho6)
              | (go_at_call 19; (with_reducible refine (CB.out).mono ?_); rintro e y7 ⟨v7, rfl, ho7, hb7⟩; have CSM := Lib.hid (same_self ho7.ents (HE.out.below (by (with_reducible (repeat' (first | assumption | exact Below.refl _ _ | apply Below.next_alloc | apply Below.drew | (apply Below.next; rotate_left; assumption)))))) HNL.out); clear CB ho7)
              | (go_at_call 18; (with_reducible refine (CSM.out).mono ?_); rintro e y8 ⟨rfl, hb8⟩; clear CSM))
            go_roundw
            case rel => exact ⟨k + 1, _, _, by omega, by go_num, Lib.hid (HI.out.below (by (with_reducible (repeat' (first | assumption | exact Below.refl _ _ | apply Below.next_alloc | apply Below.drew | (apply Below.next; rotate_left; assumption)))))), HO2, Lib.hid (HE.out.below (by (with_reducible (repeat' (first | assumption | exact Below.refl _ _ | apply Below.next_alloc | apply Below.drew | (apply Below.next; rotate_left; assumption)))))), Lib.hid (fun j hj => ⟨(HN2.out j hj).1, Nat.lt_of_lt_of_le (HN2.out j hj).2 (show Below yN.heap.size yN _ from (by (with_reducible (repeat' (first | assumption | exact Below.refl _ _ | apply Below.next_alloc | apply Below.drew | (apply Below.next; rotate_left; assumption)))))).size⟩), HNK.out, Lib.hid (HBN.out.trans ((show Below yN.heap.size yN _ from (by (with_reducible (repeat' (first | assumption | exact Below.refl _ _ | apply Below.next_alloc | apply Below.drew | (apply Below.next; rotate_left; assumption)))))).mono HBN.out.size))⟩
            case measure => simp [intOf]; omega
          · have e0 : (kd.tmod 4 == 0) = false := by rw [hr]; rfl
            have e1 : (kd.tmod 4 == 1) = true := by rw [hr]; rfl
            clear hr
            have HNK := Lib.hid (show (putE m (x, s)).length ≤ k + 1 from Nat.le_trans (put_length m (x, s)) (by omega))
            have HNL := Lib.hid (show (putE m (x, s)).length ≤ 1000 from Nat.le_trans HNK.out (by omega))
            go_wp2_with (first
              | (go_at_call 12; (with_reducible refine (rput_any x s (hE.out.below (by (with_reducible (repeat' (first | assumption | exact Below.refl _ _ | apply Below.next_alloc | apply Below.drew | (apply Below.next; rotate_left; assumption)))))) hI.out.sor HML.out).mono ?_); rintro e y3 ⟨mv2, rfl, hE3, hb3, hor⟩; have HNB := Lib.hid (put_out hE3 (put_ne _ _) hor hmvn.out hOlt.out (show Below wr.heap.size wr _ from (by (with_reducible (repeat' (first | assumption | exact Below.refl _ _ | apply Below.next_alloc | apply Below.drew | (apply Below.next; rotate_left; assumption)))))).size); obtain ⟨a3, q3, rfl⟩ := hE3.slice; clear d0 d1 hor; obtain ⟨d0, d1, -⟩ := SL.out y3 (by (with_reducible (repeat' (first | assumption | exact Below.refl _ _ | apply Below.next_alloc | apply Below.drew | (apply Below.next; rotate_left; assumption))))); have HY3 := Lib.hid (show Below wr.heap.size wr y3 from (by (with_reducible (repeat' (first | assumption | exact Below.refl _ _ | apply Below.next_alloc | apply Below.drew | (apply Below.next; rotate_left; assumption)))))); have E3 := Lib.hid hE3; have CP := Lib.hid (putH x s _ _ (hI.out.below HY3.out) HML.out rfl rfl); clear hE3)
              | (go_at_call 13; (with_reducible refine (CP.out).mono ?_); rintro e yN ⟨rfl, O2, hI4, hV4⟩; have HI := Lib.hid hI4; have HN2 := Lib.hid (fun j (hj : (Value.slice a3 _ q3).ownBlock = some j) => And.intro (fun ho => (hV4.own j ho).elim (HNB.out j hj).1 (fun h => absurd (HNB.out j hj).2 (Nat.not_lt.2 h))) (Nat.lt_of_lt_of_le (HNB.out j hj).2 hV4.size)); have HO2 := Lib.hid (hV4.above hO.out (Nat.le_trans SZ.out HY3.out.size)); have HBN := Lib.hid ((hB.out.trans (HY3.out.mono SZ.out)).trans (hV4.below hO.out (Nat.le_trans SZ.out HY3.out.size))); have HE := Lib.hid (E3.out.moved hV4 (fun j hj => (HNB.out j hj).1)); clear CP hI4 hV4 d0 d1)
              | (go_at_call 22; (with_reducible refine (lenH _ (HI.out.below (by (with_reducible (repeat' (first | assumption | exact Below.refl _ _ | apply Below.next_alloc | apply Below.drew | (apply Below.next; rotate_left; assumption)))))) rfl).mono ?_); rintro e y5 ⟨rfl, rfl⟩)
              | (go_at_call 23; (with_reducible refine (allH (HI.out.below (by (with_reducible (repeat' (first | assumption | exact Below.refl _ _ | apply Below.next_alloc | apply Below.drew | (apply Below.next; rotate_left; assumption)))))) HNL.out).mono ?_); rintro e y6 ⟨v6, rfl, ho6, hb6⟩; have CB := Lib.hid (back_any ho6.ents HNL.out); clear ho6)
              | (go_at_call 19; (with_reducible refine (CB.out).mono ?_); rintro e y7 ⟨v7, rfl, ho7, hb7⟩; have CSM := Lib.hid (same_self ho7.ents (HE.out.below (by (with_reducible (repeat' (first | assumption | exact Below.refl _ _ | apply Below.next_alloc | apply Below.drew | (apply Below.next; rotate_left; assumption)))))) HNL.out); clear CB ho7)
              | (go_at_call 18; (with_reducible refine (CSM.out).mono ?_); rintro e y8 ⟨rfl, hb8⟩; clear CSM))
            go_roundw
            case rel => exact ⟨k + 1, _, _, by omega, by go_num, Lib.hid (HI.out.below (by (with_reducible (repeat' (first | assumption | exact Below.refl _ _ | apply Below.next_alloc | apply Below.drew | (apply Below.next; rotate_left; assumption)))))), HO2, Lib.hid (HE.out.below (by (with_reducible (repeat' (first | assumption | exact Below.refl _ _ | apply Below.next_alloc | apply Below.drew | (apply Below.next; rotate_left; assumption)))))), Lib.hid (fun j hj => ⟨(HN2.out j hj).1, Nat.lt_of_lt_of_le (HN2.out j hj).2 (show Below yN.heap.size yN _ from (by (with_reducible (repeat' (first | assumption | exact Below.refl _ _ | apply Below.next_alloc | apply Below.drew | (apply Below.next; rotate_left; assumption)))))).size⟩), HNK.out, Lib.hid (HBN.out.trans ((show Below yN.heap.size yN _ from (by (with_reducible (repeat' (first | assumption | exact Below.refl _ _ | apply Below.next_alloc | apply Below.drew | (apply Below.next; rotate_left; assumption)))))).mono HBN.out.size))⟩
            case measure => simp [intOf]; omega
          · have e0 : (kd.tmod 4 == 0) = false := by rw [hr]; rfl
            have e1 : (kd.tmod 4 == 1) = false := by rw [hr]; rfl
            have e2 : (kd.tmod 4 == 2) = true := by rw [hr]; rfl
            clear hr
            have HNK := Lib.hid (show (eraF m (x, s)).length ≤ k + 1 from Nat.le_trans (List.length_filter_le _ _) (by omega))
            have HNL := Lib.hid (show (eraF m (x, s)).length ≤ 1000 from Nat.le_trans HNK.out (by omega))
            go_wp2_with (first
              | (go_at_call 14; (with_reducible refine (rdrop_any x s (hE.out.below (by (with_reducible (repeat' (first | assumption | exact Below.refl _ _ | apply Below.next_alloc | apply Below.drew | (apply Below.next; rotate_left; assumption)))))) HML.out).mono ?_); rintro e y3 ⟨mv2, rfl, ho3, hb3⟩; have HNB := Lib.hid (drop_out ho3 hOlt.out (show Below wr.heap.size wr _ from (by (with_reducible (repeat' (first | assumption | exact Below.refl _ _ | apply Below.next_alloc | apply Below.drew | (apply Below.next; rotate_left; assumption)))))).size); obtain ⟨a3, q3, rfl⟩ := ho3.ents.slice; clear d0 d1; obtain ⟨d0, d1, -⟩ := SL.out y3 (by (with_reducible (repeat' (first | assumption | exact Below.refl _ _ | apply Below.next_alloc | apply Below.drew | (apply Below.next; rotate_left; assumption))))); have HY3 := Lib.hid (show Below wr.heap.size wr y3 from (by (with_reducible (repeat' (first | assumption | exact Below.refl _ _ | apply Below.next_alloc | apply Below.drew | (apply Below.next; rotate_left; assumption)))))); have E3 := Lib.hid ho3.ents; have CP := Lib.hid (dropH x s _ _ (hI.out.below HY3.out) HML.out rfl rfl); clear ho3)
              | (go_at_call 15; (with_reducible refine (CP.out).mono ?_); rintro e yN ⟨rfl, O2, hI4, hV4⟩; have HI := Lib.hid hI4; have HN2 := Lib.hid (fun j (hj : (Value.slice a3 _ q3).ownBlock = some j) => And.intro (fun ho => (hV4.own j ho).elim (HNB.out j hj).1 (fun h => absurd (HNB.out j hj).2 (Nat.not_lt.2 h))) (Nat.lt_of_lt_of_le (HNB.out j hj).2 hV4.size)); have HO2 := Lib.hid (hV4.above hO.out (Nat.le_trans SZ.out HY3.out.size)); have HBN := Lib.hid ((hB.out.trans (HY3.out.mono SZ.out)).trans (hV4.below hO.out (Nat.le_trans SZ.out HY3.out.size))); have HE := Lib.hid (E3.out.moved hV4 (fun j hj => (HNB.out j hj).1)); clear CP hI4 hV4 d0 d1)
              | (go_at_call 22; (with_reducible refine (lenH _ (HI.out.below (by (with_reducible (repeat' (first | assumption | exact Below.refl _ _ | apply Below.next_alloc | apply Below.drew | (apply Below.next; rotate_left; assumption)))))) rfl).mono ?_); rintro e y5 ⟨rfl, rfl⟩)
              | (go_at_call 23; (with_reducible refine (allH (HI.out.below (by (with_reducible (repeat' (first | assumption | exact Below.refl _ _ | apply Below.next_alloc | apply Below.drew | (apply Below.next; rotate_left; assumption)))))) HNL.out).mono ?_); rintro e y6 ⟨v6, rfl, ho6, hb6⟩; have CB := Lib.hid (back_any ho6.ents HNL.out); clear ho6)
              | (go_at_call 19; (with_reducible refine (CB.out).mono ?_); rintro e y7 ⟨v7, rfl, ho7, hb7⟩; have CSM := Lib.hid (same_self ho7.ents (HE.out.below (by (with_reducible (repeat' (first | assumption | exact Below.refl _ _ | apply Below.next_alloc | apply Below.drew | (apply Below.next; rotate_left; assumption)))))) HNL.out); clear CB ho7)
              | (go_at_call 18; (with_reducible refine (CSM.out).mono ?_); rintro e y8 ⟨rfl, hb8⟩; clear CSM))
            go_roundw
            case rel => exact ⟨k + 1, _, _, by omega, by go_num, Lib.hid (HI.out.below (by (with_reducible (repeat' (first | assumption | exact Below.refl _ _ | apply Below.next_alloc | apply Below.drew | (apply Below.next; rotate_left; assumption)))))), HO2, Lib.hid (HE.out.below (by (with_reducible (repeat' (first | assumption | exact Below.refl _ _ | apply Below.next_alloc | apply Below.drew | (apply Below.next; rotate_left; assumption)))))), Lib.hid (fun j hj => ⟨(HN2.out j hj).1, Nat.lt_of_lt_of_le (HN2.out j hj).2 (show Below yN.heap.size yN _ from (by (with_reducible (repeat' (first | assumption | exact Below.refl _ _ | apply Below.next_alloc | apply Below.drew | (apply Below.next; rotate_left; assumption)))))).size⟩), HNK.out, Lib.hid (HBN.out.trans ((show Below yN.heap.size yN _ from (by (with_reducible (repeat' (first | assumption | exact Below.refl _ _ | apply Below.next_alloc | apply Below.drew | (apply Below.next; rotate_left; assumption)))))).mono HBN.out.size))⟩
            case measure => simp [intOf]; omega
          · have e0 : (kd.tmod 4 == 0) = false := by rw [hr]; rfl
            have e1 : (kd.tmod 4 == 1) = false := by rw [hr]; rfl
            have e2 : (kd.tmod 4 == 2) = false := by rw [hr]; rfl
            clear hr
            obtain ⟨ax, s2, ab, hV⟩ := nxt_is (m.find? fun x' => less (x, s) x')
            have CNX := Lib.hid (fun (W : World) (h : Below wr.heap.size wr W) => nextH x s _ (hI.out.below h) HML.out hV)
            have CRA := Lib.hid (fun (W : World) (h : Below wr.heap.size wr W) => show Calls Try.prog 17 #[_, .agg #[.int .i64 x, .string s]] W fun e w' => e = .returned (.tuple #[.agg #[.int .i64 ax, .string s2], .bool ab]) ∧ Below W.heap.size W w' from hV ▸ rafter_any x s (hE.out.below h) HML.out)
            clear hV
            go_wp2_with (first
              | (go_at_call 16; (with_reducible refine (CNX.out _ (by (with_reducible (repeat' (first | assumption | exact Below.refl _ _ | apply Below.next_alloc | apply Below.drew | (apply Below.next; rotate_left; assumption)))))).mono ?_); rintro e y3 ⟨rfl, hb3⟩; clear d0 d1 c0 c1 c2 c3; obtain ⟨zq, f0, f1⟩ := boxed2 (w := y3) (a := .int .i64 ax) (b := .string s2) (t := 29) (Below.refl _ _); have hW3 : Below y3.heap.size y3 (y3.alloc (.cells #[.int .i64 ax, .string s2] 29)) := (Below.refl _ _).alloc (Nat.le_refl _) _; obtain ⟨-, -, -, c1, c2, -⟩ := SL.out (y3.alloc (.cells #[.int .i64 ax, .string s2] 29)) (by (with_reducible (repeat' (first | assumption | exact Below.refl _ _ | apply Below.next_alloc | apply Below.drew | (apply Below.next; rotate_left; assumption))))))
              | (go_at_call 17; (with_reducible refine (CRA.out _ (by (with_reducible (repeat' (first | assumption | exact Below.refl _ _ | apply Below.next_alloc | apply Below.drew | (apply Below.next; rotate_left; assumption)))))).mono ?_); rintro e y4 ⟨rfl, hb4⟩))
            obtain ⟨zr, f2, f3⟩ := boxed2 (w := y4) (a := .int .i64 ax) (b := .string s2) (t := 30) (Below.refl _ _)
            have hW4 : Below y4.heap.size y4 (y4.alloc (.cells #[.int .i64 ax, .string s2] 30)) := (Below.refl _ _).alloc (Nat.le_refl _) _
            have zq4 : y3.heap.size < y4.heap.size := Nat.lt_of_lt_of_le zq hb4.size
            replace f0 := (hb4.cell (p := ⟨y3.heap.size, 0, none⟩) zq).trans f0
            replace f1 := (hb4.cell (p := ⟨y3.heap.size, 1, none⟩) zq).trans f1
            replace f0 := (hW4.cell (p := ⟨y3.heap.size, 0, none⟩) zq4).trans f0
            replace f1 := (hW4.cell (p := ⟨y3.heap.size, 1, none⟩) zq4).trans f1
            replace zq4 := Nat.lt_of_lt_of_le zq4 hW4.size
            have HW14 : Below W1.heap.size W1 (y4.alloc (.cells #[.int .i64 ax, .string s2] 30)) := (by (with_reducible (repeat' (first | assumption | exact Below.refl _ _ | apply Below.next_alloc | apply Below.drew | (apply Below.next; rotate_left; assumption)))))
            generalize y4.alloc (.cells #[.int .i64 ax, .string s2] 30) = W4 at *
            obtain ⟨d0, -, -, -, -, c3⟩ := SL.out W4 HW14
            have HW4 : Below wr.heap.size wr W4 := Below.next BWR HW14
            have zb4 := Nat.lt_of_lt_of_le zb HW14.size
            have hb4' := Nat.lt_of_lt_of_le hbW HW14.size
            clear SL hW4 hb4 hb3 hW3 hb1 hb2 zq CNX CRA c1 c2
            have SL := Lib.hid (show ∀ W, Below W4.heap.size W4 W → W.cell? ⟨wr.heap.size, 0, none⟩ = some (.int .i64 x) ∧ W.cell? ⟨b, o + k * 4 + 3, none⟩ = some (.int .i64 to) ∧ W.cell? ⟨y3.heap.size, 0, none⟩ = some (.int .i64 ax) ∧ W.cell? ⟨y3.heap.size, 1, none⟩ = some (.string s2) ∧ W.cell? ⟨y4.heap.size, 0, none⟩ = some (.int .i64 ax) ∧ W.cell? ⟨y4.heap.size, 1, none⟩ = some (.string s2) from fun W hW =>
              ⟨(hW.cell (p := ⟨wr.heap.size, 0, none⟩) zb4).trans d0, (hW.cell (p := ⟨b, o + k * 4 + 3, none⟩) hb4').trans c3, (hW.cell (p := ⟨y3.heap.size, 0, none⟩) zq4).trans f0, (hW.cell (p := ⟨y3.heap.size, 1, none⟩) zq4).trans f1, (hW.cell (p := ⟨y4.heap.size, 0, none⟩) zr).trans f2, (hW.cell (p := ⟨y4.heap.size, 1, none⟩) zr).trans f3⟩)
            have EQ := fun W => eqR_is (x := ax) (y := ax) (s := s2) (t := s2) (q := true) (decide_eq_true rfl) W
            have HBT := Lib.hid (show (btw x to m).length ≤ 1000 from Nat.le_trans (List.length_filter_le _ _) HML.out)
            have CBT := Lib.hid (fun (W : World) (h : Below wr.heap.size wr W) => btwH x to (hI.out.below h) HML.out)
            have CRB := Lib.hid (fun (W : World) (h : Below wr.heap.size wr W) => rbtw_any x to (hE.out.below h) HML.out)
            clear f0 f1 f2 f3 d0 c3
            go_region_held3 (fun w' => w'.cell? ⟨wr.heap.size, 0, none⟩ = some (.int .i64 x) ∧ w'.cell? ⟨b, o + k * 4 + 3, none⟩ = some (.int .i64 to) ∧ w'.cell? ⟨y3.heap.size, 0, none⟩ = some (.int .i64 ax) ∧ w'.cell? ⟨y3.heap.size, 1, none⟩ = some (.string s2) ∧ w'.cell? ⟨y4.heap.size, 0, none⟩ = some (.int .i64 ax) ∧ w'.cell? ⟨y4.heap.size, 1, none⟩ = some (.string s2)) (first | ((with_reducible refine SL.out _ ?_); (with_reducible (repeat' (first | assumption | exact Below.refl _ _ | apply Below.next_alloc | apply Below.drew | (apply Below.next; rotate_left; assumption)))); done) | go_keep)
            (first
              | (go_at_call 20; (with_reducible refine (CBT.out _ (by (with_reducible (repeat' (first | assumption | exact Below.refl _ _ | apply Below.next_alloc | apply Below.drew | (apply Below.next; rotate_left; assumption)))))).mono ?_); rintro e y5 ⟨u5, rfl, ho5, hb5⟩)
              | (go_at_call 19; (with_reducible refine (back_any (ho5.ents.below (by (with_reducible (repeat' (first | assumption | exact Below.refl _ _ | apply Below.next_alloc | apply Below.drew | (apply Below.next; rotate_left; assumption)))))) HBT.out).mono ?_); rintro e y6 ⟨v6, rfl, ho6, hb6⟩)
              | (go_at_call 21; (with_reducible refine (CRB.out _ (by (with_reducible (repeat' (first | assumption | exact Below.refl _ _ | apply Below.next_alloc | apply Below.drew | (apply Below.next; rotate_left; assumption)))))).mono ?_); rintro e y7 ⟨v7, rfl, ho7, hb7⟩)
              | (go_at_call 18; (with_reducible refine (same_self (ho6.ents.below (by (with_reducible (repeat' (first | assumption | exact Below.refl _ _ | apply Below.next_alloc | apply Below.drew | (apply Below.next; rotate_left; assumption)))))) (ho7.ents.below (by (with_reducible (repeat' (first | assumption | exact Below.refl _ _ | apply Below.next_alloc | apply Below.drew | (apply Below.next; rotate_left; assumption)))))) HBT.out).mono ?_); rintro e y8 ⟨rfl, hb8⟩))
            have HI := hI
            have HE := hE
            have HO2 := hO
            have HN2 := hmvn
            have HBN := hB
            have HNL := HML
            have HNK := Lib.hid (show m.length ≤ k + 1 from Nat.le_succ_of_le hmk)
            clear SL EQ CBT CRB HBT
            go_wp2_with (first
              | (go_at_call 22; (with_reducible refine (lenH _ (HI.out.below (by (with_reducible (repeat' (first | assumption | exact Below.refl _ _ | apply Below.next_alloc | apply Below.drew | (apply Below.next; rotate_left; assumption)))))) rfl).mono ?_); rintro e y5 ⟨rfl, rfl⟩)
              | (go_at_call 23; (with_reducible refine (allH (HI.out.below (by (with_reducible (repeat' (first | assumption | exact Below.refl _ _ | apply Below.next_alloc | apply Below.drew | (apply Below.next; rotate_left; assumption)))))) HNL.out).mono ?_); rintro e y6 ⟨v6, rfl, ho6, hb6⟩; have CB := Lib.hid (back_any ho6.ents HNL.out); clear ho6)
              | (go_at_call 19; (with_reducible refine (CB.out).mono ?_); rintro e y7 ⟨v7, rfl, ho7, hb7⟩; have CSM := Lib.hid (same_self ho7.ents (HE.out.below (by (with_reducible (repeat' (first | assumption | exact Below.refl _ _ | apply Below.next_alloc | apply Below.drew | (apply Below.next; rotate_left; assumption)))))) HNL.out); clear CB ho7)
              | (go_at_call 18; (with_reducible refine (CSM.out).mono ?_); rintro e y8 ⟨rfl, hb8⟩; clear CSM))
            go_roundw
            case rel => exact ⟨k + 1, _, _, by omega, by go_num, Lib.hid (HI.out.below (by (with_reducible (repeat' (first | assumption | exact Below.refl _ _ | apply Below.next_alloc | apply Below.drew | (apply Below.next; rotate_left; assumption)))))), HO2, Lib.hid (HE.out.below (by (with_reducible (repeat' (first | assumption | exact Below.refl _ _ | apply Below.next_alloc | apply Below.drew | (apply Below.next; rotate_left; assumption)))))), Lib.hid (fun j hj => ⟨(HN2.out j hj).1, Nat.lt_of_lt_of_le (HN2.out j hj).2 (show Below wr.heap.size wr _ from (by (with_reducible (repeat' (first | assumption | exact Below.refl _ _ | apply Below.next_alloc | apply Below.drew | (apply Below.next; rotate_left; assumption)))))).size⟩), HNK.out, Lib.hid (HBN.out.trans ((show Below wr.heap.size wr _ from (by (with_reducible (repeat' (first | assumption | exact Below.refl _ _ | apply Below.next_alloc | apply Below.drew | (apply Below.next; rotate_left; assumption)))))).mono HBN.out.size))⟩
            case measure => simp [intOf]; omega
      · obtain rfl : k = l.length := by omega
        go_wp2_with (go_at_call 8; (with_reducible refine (awake_any _).mono ?_); rintro e w2 ⟨rfl, hB2⟩)
        go_ret
        exact ⟨rfl, Below.next hB.out hB2⟩
  · have FN := Lib.hid (few_no hl hf)
    clear hl hf
    go_enter Try.func3, Try.ntmps3
    go_wp2_with (first
      | (go_at_call 7; (with_reducible refine FN.out.mono ?_); rintro e w0 ⟨rfl, rfl⟩)
      | (go_at_call 8; (with_reducible refine (awake_any _).mono ?_); rintro e w1 ⟨rfl, hB1⟩))
    go_ret
    exact ⟨rfl, hB1⟩
end Go.Proofs.Ytncneoggnoiknaa.Du

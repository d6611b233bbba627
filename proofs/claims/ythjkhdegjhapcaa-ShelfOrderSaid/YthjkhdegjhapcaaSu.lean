/- What was put last: the plain law, and the walk through errandlaw30.ShelfLast. -/
import Derived.Test.YthjkhdegjhapcaaSt
namespace Go.Proofs.Ythjkhdegjhapcaa.Sa
open Go.RowKit Sp
/-- a deed: an odd value drops, else it puts -/
def lstep (s : List Ent) (e : Ent) : List Ent := if Int.tmod e.2 2 = 0 then ins e.1 e.2 s else rdrop s e.1
def lst (l : List Ent) : List Ent := l.foldl lstep []
theorem lst_snoc (l : List Ent) (e : Ent) : lst (l ++ [e]) = lstep (lst l) e := by unfold lst; rw [List.foldl_append]; rfl
theorem lstep_sorted {s : List Ent} {e : Ent} (hs : Sorted s) : Sorted (lstep s e) := by
  unfold lstep
  split
  · exact sorted_ins hs
  · exact sorted_rdrop _ hs
theorem lst_sorted_aux : ∀ (l s : List Ent), Sorted s → Sorted (l.foldl lstep s)
  | [], _, hs => hs
  | e :: l, s, hs => by rw [List.foldl_cons]; exact lst_sorted_aux l _ (lstep_sorted hs)
theorem lst_sorted (l : List Ent) : Sorted (lst l) := lst_sorted_aux l [] List.Pairwise.nil
theorem lstep_len (s : List Ent) (e : Ent) : (lstep s e).length ≤ s.length + 1 := by
  unfold lstep
  split
  · exact ins_len _ _ _
  · exact Nat.le_trans (rdrop_len _ _) (Nat.le_succ _)
theorem lst_len_aux : ∀ (l s : List Ent), (l.foldl lstep s).length ≤ s.length + l.length
  | [], s => by simp
  | e :: l, s => by
    rw [List.foldl_cons, List.length_cons]
    have := lst_len_aux l (lstep s e)
    have := lstep_len s e
    omega
theorem lst_len (l : List Ent) : (lst l).length ≤ l.length := by unfold lst; simpa using lst_len_aux l []
theorem rget_lstep {s : List Ent} {e : Ent} {t : ByteArray} (hs : Sorted s) : rget (lstep s e) t = if e.1 = t then (if Int.tmod e.2 2 = 0 then some e.2 else none) else rget s t := by
  unfold lstep
  by_cases h : Int.tmod e.2 2 = 0
  · rw [if_pos h, if_pos h, rget_ins hs]
    by_cases he : e.1 = t
    · rw [if_pos he, if_pos he.symm]
    · rw [if_neg he, if_neg (fun h => he h.symm)]
  · rw [if_neg h, if_neg h, rget_rdrop]
    by_cases he : e.1 = t
    · rw [if_pos he, if_pos he.symm]
    · rw [if_neg he, if_neg (fun h => he h.symm)]
/-- what was done last under a key decides -/
theorem rget_last {es : List Ent} {t : ByteArray} {m : Nat} (hm : m < es.length) (ht : es[m].1 = t) :
    ∀ i (_ : i < es.length), m ≤ i → (∀ j (hj : j < es.length), m < j → j ≤ i → es[j].1 ≠ t) → rget (lst (es.take (i + 1))) t = if Int.tmod es[m].2 2 = 0 then some es[m].2 else none := by
  intro i
  induction i with
  | zero =>
    intro hi h0 _
    obtain rfl : m = 0 := by omega
    rw [take_snoc es 0 hi, lst_snoc, rget_lstep (lst_sorted _), if_pos ht]
  | succ i ih =>
    intro hi hmi hno
    rw [take_snoc es (i + 1) hi, lst_snoc, rget_lstep (lst_sorted _)]
    by_cases hme : m = i + 1
    · subst hme
      rw [if_pos ht]
    · rw [if_neg (hno (i + 1) hi (by omega) (Nat.le_refl _))]
      exact ih (by omega) (by omega) fun j hj h1 h2 => hno j hj h1 (by omega)
set_option maxHeartbeats 1000000 in
set_option maxRecDepth 100000 in
theorem last_any {v : Value} {es : List Ent} {w : World} (hE : Ents w v es) :
    Calls Try.prog 5 #[v] w fun e w' => e = .returned (.bool true) ∧ Below w.heap.size w w' := by
  have F := Lib.hid (few_any (w := w) hE)
  cases hf : few es
  · rw [hf] at F
    go_enter Try.func5, Try.ntmps5
    go_wp2_with (first
      | (go_at_call 7; refine (F.out).mono ?_; rintro e w' ⟨rfl, rfl⟩)
      | (go_at_call 8; refine (awake_any _).mono ?_; rintro e w1 ⟨rfl, hB1⟩))
    go_ret
    exact ⟨rfl, by (repeat' (first | assumption | exact Below.refl _ _ | apply Below.next_alloc | apply Below.drew | (apply Below.next; rotate_left; assumption)))⟩
  · rw [hf] at F
    have hn := few_len hf
    clear hf
    rcases hE with ⟨rfl, a, cap, rfl, _⟩ | ⟨h0, b, o, cap, rfl, hlt, hcap, hcell⟩
    · go_enter Try.func5, Try.ntmps5
      go_wp2_with (first | (go_at_call 7; refine (F.out).mono ?_; rintro e w' ⟨rfl, rfl⟩))
      refine wp_loop_rounds 1 ?_
      rw [rounds_succ]
      go_wp2_with (first | (go_at_call 8; refine (awake_any _).mono ?_; rintro e w10 ⟨rfl, hB15⟩))
      go_ret
      exact ⟨rfl, by (repeat' (first | assumption | exact Below.refl _ _ | apply Below.next_alloc | apply Below.drew | (apply Below.next; rotate_left; assumption)))⟩
    · have HC := Lib.hid hcell
      clear hcell
      go_enter Try.func5, Try.ntmps5
      go_wp2_with (first | (go_at_call 7; refine (F.out).mono ?_; rintro e w' ⟨rfl, rfl⟩))
      go_loopw [3, 4] (fun u i wr => ∃ k : Nat, k ≤ es.length ∧ i = .int .i64 k ∧ Ents wr u (lst (es.take k)) ∧ Below w.heap.size w wr) (fun _ i _ => es.length - (intOf i).toNat)
      case atStart => exact ⟨0, by omega, rfl, .inl ⟨rfl, _, _, rfl, fun _ => rfl⟩, Below.refl _ _⟩
      case round =>
        obtain ⟨k, k1, rfl, hA, hB⟩ := hrel
        by_cases hk : k < es.length
        · have c1 := (hB.cell (p := ⟨b, o + k * 2, none⟩) hlt).trans (HC.out k hk).1
          have c2 := (hB.cell (p := ⟨b, o + k * 2 + 1, none⟩) hlt).trans (HC.out k hk).2
          have hs := Lib.hid (show lst (es.take (k + 1)) = lstep (lst (es.take k)) es[k] by rw [take_snoc es k hk, lst_snoc])
          have hln : (lst (es.take k)).length ≤ 1000 := by have := lst_len (es.take k); rw [List.length_take] at this; omega
          have hln := Lib.hid hln
          have hso := Lib.hid (lst_sorted (es.take k))
          have i2 : (k : Int) < (es.length : Int) := by omega
          have i3 : (0 : Int) ≤ (k : Int) := by omega
          have hbl : b < wr.heap.size := Nat.lt_of_lt_of_le hlt hB.size
          by_cases hev : Int.tmod es[k].2 2 = 0
          · have hb1 : (Int.tmod es[k].2 2 != 0) = false := by rw [hev]; rfl
            have hs2 := Lib.hid (hs.out.trans (if_pos hev))
            clear hs
            have hev := Lib.hid hev
            go_wp2
            go_region_held3 (fun w' => w'.cell? ⟨b, o + k * 2, none⟩ = some (.string es[k].1) ∧ w'.cell? ⟨b, o + k * 2 + 1, none⟩ = some (.int .i64 es[k].2)) (first | go_keep | exact ⟨(Below.cell (p := ⟨b, o + k * 2, none⟩) (B := wr.heap.size) (w := wr) (by (repeat' (first | assumption | exact Below.refl _ _ | apply Below.next_alloc | apply Below.drew | (apply Below.next; rotate_left; assumption)))) hbl).trans c1, (Below.cell (p := ⟨b, o + k * 2 + 1, none⟩) (B := wr.heap.size) (w := wr) (by (repeat' (first | assumption | exact Below.refl _ _ | apply Below.next_alloc | apply Below.drew | (apply Below.next; rotate_left; assumption)))) hbl).trans c2⟩)
              (first | (go_at_call 24; refine (put_any _ _ (hA.below (by (repeat' (first | assumption | exact Below.refl _ _ | apply Below.next_alloc | apply Below.drew | (apply Below.next; rotate_left; assumption))))) hso.out hln.out).mono ?_; intro e1 W1 hGa; obtain ⟨va, rfl, ha, hBa⟩ := hGa.gives (pput_ins _ _ hso.out); have hB1 := nb1 hBa; clear hBa))
            go_wp2
            have hU : Ents W1 va (lst (es.take (k + 1))) := by rw [hs2.out]; exact ha
            have hBm := hB.trans (hB1.mono hB.size)
            clear hB1 ha c1 c2 hs2 hev hA hB hb1 hso hln i2 i3 hbl
            generalize W1 = Wm at *
            have HM := Lib.hid (fun (wr : World) (hb : Below Wm.heap.size Wm wr) (q : Nat) (hq : q < es.length) => And.intro (((hBm.trans (hb.mono hBm.size)).cell (p := ⟨b, o + q * 2, none⟩) hlt).trans (HC.out q hq).1) (((hBm.trans (hb.mono hBm.size)).cell (p := ⟨b, o + q * 2 + 1, none⟩) hlt).trans (HC.out q hq).2))
            have hUs := Lib.hid (lst_sorted (es.take (k + 1)))
            have hUl : Hid ((lst (es.take (k + 1))).length ≤ 1000000) := Lib.hid (by have := lst_len (es.take (k + 1)); rw [List.length_take] at this; omega)
            go_loopw [5] (fun q wr => ∃ n : Nat, n ≤ k + 1 ∧ q = .int .i64 n ∧ Below Wm.heap.size Wm wr) (fun q _ => k + 1 - (intOf q).toNat)
            case atStart => exact ⟨0, by omega, rfl, Below.refl _ _⟩
            case round =>
              obtain ⟨q, q1, rfl, hBq⟩ := hrel
              by_cases hq : q ≤ k
              · have hq' : q < es.length := by omega
                go_wp2
                go_loopw [6, 7] (fun l j wq => ∃ m x : Nat, ∃ hm : m < es.length, q ≤ m ∧ m ≤ k ∧ m < x ∧ x ≤ k + 1 ∧ l = .int .i64 m ∧ j = .int .i64 x ∧ Hid (es[m].1 = es[q].1 ∧ (∀ y (hy : y < es.length), m < y → y < x → es[y].1 ≠ es[q].1)) ∧ Below Wm.heap.size Wm wq) (fun _ j _ => k + 1 - (intOf j).toNat)
                case atStart => exact ⟨q, q + 1, hq', by omega, by omega, by omega, by omega, rfl, by go_num, Lib.hid ⟨rfl, fun y hy h1 h2 => by omega⟩, hBq⟩
                case round =>
                  obtain ⟨m, x, hm, m1, m2, m3, x1, rfl, rfl, hno, hBx⟩ := hrel
                  obtain ⟨d1, d2⟩ := HM.out _ hBx q hq'
                  by_cases hx : x ≤ k
                  · have hx' : x < es.length := by omega
                    obtain ⟨e1, e2⟩ := HM.out _ hBx x hx'
                    by_cases he : es[x].1 = es[q].1
                    · have hbb : (es[x].1.toList == es[q].1.toList) = true := by rw [eq_iff]; simpa using he
                      have he := Lib.hid he
                      go_wp2
                      go_quiet (fail)
                      go_wp2
                      go_roundw
                      case rel => exact ⟨x, x + 1, hx', by omega, by omega, by omega, by omega, rfl, by go_num, Lib.hid ⟨he.out, fun y hy h1 h2 => by omega⟩, Base.below_drewN hBx _⟩
                      case measure => simp [intOf]; omega
                    · have hbb : (es[x].1.toList == es[q].1.toList) = false := by rw [eq_iff]; simpa using he
                      have he := Lib.hid he
                      go_wp2
                      go_quiet (fail)
                      go_wp2
                      go_roundw
                      case rel => exact ⟨m, x + 1, hm, by omega, by omega, by omega, by omega, rfl, by go_num, Lib.hid ⟨hno.out.1, fun y hy h1 h2 => by
                        by_cases hyx : y = x
                        · subst hyx; exact he.out
                        · exact hno.out.2 y hy h1 (by omega)⟩, Base.below_drewN hBx _⟩
                      case measure => simp [intOf]; omega
                  · obtain rfl : x = k + 1 := by omega
                    have hg := rget_last hm hno.out.1 k hk m2 (fun j hj h1 h2 => hno.out.2 j hj h1 (by omega))
                    have G := get_g (t := es[q].1) (hU.below hBx) hUs.out hUl.out
                    rw [hg] at G
                    clear hg
                    by_cases hem : Int.tmod es[m].2 2 = 0
                    · rw [if_pos hem] at G
                      have G := Lib.hid G
                      have hbm : (Int.tmod es[m].2 2 == 0) = true := by rw [hem]; rfl
                      have hem := Lib.hid hem
                      go_wp2_with (go_at_call 20; refine G.out.mono ?_; rintro e wg ⟨rfl, hBg⟩; have hBn := hBx.trans (hBg.mono hBx.size); obtain ⟨g1, g2⟩ := HM.out _ hBn m hm)
                      go_roundw
                      case rel => exact ⟨q + 1, by omega, by go_num, hBn⟩
                      case measure => simp [intOf]; omega
                    · rw [if_neg hem] at G
                      have G := Lib.hid G
                      have hbm : (Int.tmod es[m].2 2 == 0) = false := by rw [beq_eq_false_iff_ne]; exact hem
                      have hem := Lib.hid hem
                      go_wp2_with (go_at_call 20; refine G.out.mono ?_; rintro e wg ⟨rfl, hBg⟩; have hBn := hBx.trans (hBg.mono hBx.size); obtain ⟨g1, g2⟩ := HM.out _ hBn m hm)
                      go_roundw
                      case rel => exact ⟨q + 1, by omega, by go_num, hBn⟩
                      case measure => simp [intOf]; omega
              · obtain rfl : q = k + 1 := by omega
                go_wp2
                go_roundw
                case rel => exact ⟨k + 1, by omega, by go_num, hU.below hBq, hBm.trans (hBq.mono hBm.size)⟩
                case measure => simp [intOf]; omega
          · have hb1 : (Int.tmod es[k].2 2 != 0) = true := by rw [bne_iff_ne]; exact hev
            have hs2 := Lib.hid (hs.out.trans (if_neg hev))
            clear hs
            have hev := Lib.hid hev
            go_wp2_with (first | (go_at_call 10; refine (drop_g (by (apply Ents.below; (with_reducible assumption); (repeat' (first | assumption | exact Below.refl _ _ | apply Below.next_alloc | apply Below.drew | (apply Below.next; rotate_left; assumption))))) hso.out hln.out).mono ?_; rintro e w2 ⟨vd, rfl, hD, hB2⟩))
            have hU : Ents w2 vd (lst (es.take (k + 1))) := by rw [hs2.out]; exact hD
            have hBm := hB.trans (hB2.mono hB.size)
            clear hB2 hD c1 c2 hs2 hev hA hB hb1 hso hln i2 i3 hbl
            generalize w2 = Wm at *
            have HM := Lib.hid (fun (wr : World) (hb : Below Wm.heap.size Wm wr) (q : Nat) (hq : q < es.length) => And.intro (((hBm.trans (hb.mono hBm.size)).cell (p := ⟨b, o + q * 2, none⟩) hlt).trans (HC.out q hq).1) (((hBm.trans (hb.mono hBm.size)).cell (p := ⟨b, o + q * 2 + 1, none⟩) hlt).trans (HC.out q hq).2))
            have hUs := Lib.hid (lst_sorted (es.take (k + 1)))
            have hUl : Hid ((lst (es.take (k + 1))).length ≤ 1000000) := Lib.hid (by have := lst_len (es.take (k + 1)); rw [List.length_take] at this; omega)
            go_loopw [5] (fun q wr => ∃ n : Nat, n ≤ k + 1 ∧ q = .int .i64 n ∧ Below Wm.heap.size Wm wr) (fun q _ => k + 1 - (intOf q).toNat)
            case atStart => exact ⟨0, by omega, rfl, Below.refl _ _⟩
            case round =>
              obtain ⟨q, q1, rfl, hBq⟩ := hrel
              by_cases hq : q ≤ k
              · have hq' : q < es.length := by omega
                go_wp2
                go_loopw [6, 7] (fun l j wq => ∃ m x : Nat, ∃ hm : m < es.length, q ≤ m ∧ m ≤ k ∧ m < x ∧ x ≤ k + 1 ∧ l = .int .i64 m ∧ j = .int .i64 x ∧ Hid (es[m].1 = es[q].1 ∧ (∀ y (hy : y < es.length), m < y → y < x → es[y].1 ≠ es[q].1)) ∧ Below Wm.heap.size Wm wq) (fun _ j _ => k + 1 - (intOf j).toNat)
                case atStart => exact ⟨q, q + 1, hq', by omega, by omega, by omega, by omega, rfl, by go_num, Lib.hid ⟨rfl, fun y hy h1 h2 => by omega⟩, hBq⟩
                case round =>
                  obtain ⟨m, x, hm, m1, m2, m3, x1, rfl, rfl, hno, hBx⟩ := hrel
                  obtain ⟨d1, d2⟩ := HM.out _ hBx q hq'
                  by_cases hx : x ≤ k
                  · have hx' : x < es.length := by omega
                    obtain ⟨e1, e2⟩ := HM.out _ hBx x hx'
                    by_cases he : es[x].1 = es[q].1
                    · have hbb : (es[x].1.toList == es[q].1.toList) = true := by rw [eq_iff]; simpa using he
                      have he := Lib.hid he
                      go_wp2
                      go_quiet (fail)
                      go_wp2
                      go_roundw
                      case rel => exact ⟨x, x + 1, hx', by omega, by omega, by omega, by omega, rfl, by go_num, Lib.hid ⟨he.out, fun y hy h1 h2 => by omega⟩, Base.below_drewN hBx _⟩
                      case measure => simp [intOf]; omega
                    · have hbb : (es[x].1.toList == es[q].1.toList) = false := by rw [eq_iff]; simpa using he
                      have he := Lib.hid he
                      go_wp2
                      go_quiet (fail)
                      go_wp2
                      go_roundw
                      case rel => exact ⟨m, x + 1, hm, by omega, by omega, by omega, by omega, rfl, by go_num, Lib.hid ⟨hno.out.1, fun y hy h1 h2 => by
                        by_cases hyx : y = x
                        · subst hyx; exact he.out
                        · exact hno.out.2 y hy h1 (by omega)⟩, Base.below_drewN hBx _⟩
                      case measure => simp [intOf]; omega
                  · obtain rfl : x = k + 1 := by omega
                    have hg := rget_last hm hno.out.1 k hk m2 (fun j hj h1 h2 => hno.out.2 j hj h1 (by omega))
                    have G := get_g (t := es[q].1) (hU.below hBx) hUs.out hUl.out
                    rw [hg] at G
                    clear hg
                    by_cases hem : Int.tmod es[m].2 2 = 0
                    · rw [if_pos hem] at G
                      have G := Lib.hid G
                      have hbm : (Int.tmod es[m].2 2 == 0) = true := by rw [hem]; rfl
                      have hem := Lib.hid hem
                      go_wp2_with (go_at_call 20; refine G.out.mono ?_; rintro e wg ⟨rfl, hBg⟩; have hBn := hBx.trans (hBg.mono hBx.size); obtain ⟨g1, g2⟩ := HM.out _ hBn m hm)
                      go_roundw
                      case rel => exact ⟨q + 1, by omega, by go_num, hBn⟩
                      case measure => simp [intOf]; omega
                    · rw [if_neg hem] at G
                      have G := Lib.hid G
                      have hbm : (Int.tmod es[m].2 2 == 0) = false := by rw [beq_eq_false_iff_ne]; exact hem
                      have hem := Lib.hid hem
                      go_wp2_with (go_at_call 20; refine G.out.mono ?_; rintro e wg ⟨rfl, hBg⟩; have hBn := hBx.trans (hBg.mono hBx.size); obtain ⟨g1, g2⟩ := HM.out _ hBn m hm)
                      go_roundw
                      case rel => exact ⟨q + 1, by omega, by go_num, hBn⟩
                      case measure => simp [intOf]; omega
              · obtain rfl : q = k + 1 := by omega
                go_wp2
                go_roundw
                case rel => exact ⟨k + 1, by omega, by go_num, hU.below hBq, hBm.trans (hBq.mono hBm.size)⟩
                case measure => simp [intOf]; omega
        · have hkk : k = es.length := by omega
          subst hkk
          go_wp2_with (first | (go_at_call 8; refine (awake_any _).mono ?_; rintro e w10 ⟨rfl, hB15⟩))
          go_ret
          exact ⟨rfl, hB.trans (hB15.mono hB.size)⟩
end Go.Proofs.Ythjkhdegjhapcaa.Sa

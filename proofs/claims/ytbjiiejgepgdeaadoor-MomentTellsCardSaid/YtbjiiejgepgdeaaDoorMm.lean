/- Parse and Print, the program's and the reference's, as one contract each (printed by gen_join.py). -/
import Derived.Test.YtbjiiejgepgdeaaDoorMj
import Derived.Test.YtbjiiejgepgdeaaDoorMl
import Derived.Test.YtbjiiejgepgdeaaDoorMp
namespace Go.Proofs.YtbjiiejgepgdeaaDoor.Ma
open Go.RowKit Mo Ut Cw
theorem pM_none {L : List UInt8} (h : form L = none) : pM L = (0, 0, 4) := by unfold pM; rw [h]
theorem pM_of {L a b : List UInt8} {k : Int} (h : form L = some (k, a, b)) : pM L = two k (Mo.fields [4, 2, 2] a) (Mo.fields [2, 2, 2] b) := by unfold pM; rw [h]
theorem two_none (k : Int) (r : Option (List Int)) : two k r none = (0, 0, 4) := by unfold two; split <;> simp_all
theorem mk_bad {k y m d h i s : Int} (hb : Civ.dayE y m d ≠ 0 ∨ 23 < h ∨ 59 < i ∨ 59 < s) : mk k y m d h i s = (0, 0, 8) := by unfold mk; rw [if_pos hb]
theorem mk_good {k y m d h i s : Int} (hE : Civ.dayE y m d = 0) (h1 : ¬ 23 < h) (h2 : ¬ 59 < i) (h3 : ¬ 59 < s) : mk k y m d h i s = (k, Civ.day y m d * 86400 + (h * 60 + i) * 60 + s, 0) := by unfold mk; rw [if_neg (by omega)]
theorem day_bd {y m d : Int} (hE : Civ.dayE y m d = 0) : 0 ≤ Civ.day y m d ∧ Civ.day y m d ≤ 3652058 := by
  have h1 : 1 ≤ d ∧ d ≤ Civ.len y m := by
    unfold Civ.dayE at hE
    by_cases h' : d < 1 ∨ Civ.len y m < d
    · rw [if_pos h'] at hE; omega
    · omega
  have hl := Civ.len_pos (y := y) (m := m) (by omega)
  have := Civ.date_of hl.1 hl.2.1 hl.2.2.1 hl.2.2.2 h1.1 h1.2
  rw [(Civ.day_of h1.1 h1.2).1]; omega
theorem parse_any (L : List UInt8) (hn : L.length ≤ 1000) (w : World) (hT : Tab w) : Calls Tryd.prog 8 #[.string (str L)] w fun e w' => e = .returned (.tuple #[val (pM L).1 (pM L).2.1, .int .i64 (pM L).2.2]) ∧ Below w.heap.size w w' := by
  cases hf : form L with
  | none => rw [pM_none hf]; exact parseA L hn w hf
  | some t =>
    obtain ⟨k, a, b⟩ := t
    obtain ⟨hla, hlb, _⟩ := form_inv hf
    rw [pM_of hf]
    cases ha : Mo.fields [4, 2, 2] a with
    | none => exact parseB L a b k hn w hf ha
    | some na =>
      obtain ⟨y, m, d, rfl, y0, m0, d0, _⟩ := fields_ok hla ha
      cases hb : Mo.fields [2, 2, 2] b with
      | none => exact parseC L a b k y m d hn w hf ha hb
      | some nb =>
        obtain ⟨h, i, s, rfl, h0, i0, s0, _⟩ := fields_ok hlb hb
        show Calls _ _ _ _ fun e w' => e = .returned (.tuple #[val (mk k y m d h i s).1 (mk k y m d h i s).2.1, .int .i64 (mk k y m d h i s).2.2]) ∧ Below w.heap.size w w'
        by_cases hbad : Civ.dayE y m d ≠ 0 ∨ 23 < h ∨ 59 < i ∨ 59 < s
        · rw [mk_bad hbad]; exact parseD L a b k y m d h i s hn w hT hf ha hb hbad
        · have hE : Civ.dayE y m d = 0 := by omega
          have nb := day_bd hE
          rw [mk_good hE (by omega) (by omega) (by omega)]
          exact parseE L a b k y m d h i s hn w hT hf ha hb hE nb.1 nb.2 h0 i0 s0 (by omega) (by omega) (by omega)
theorem digc (L : List UInt8) (a b : Nat) (r : Bool) (h : ((L.take b).drop a).all dig = r) (hL : L.length ≤ 1000) : Hid (∀ w, Calls Tryd.prog 23 #[.string ((str L).extract a b)] w fun e w' => e = .returned (.bool r) ∧ w = w') :=
  Lib.hid fun w => by
    subst h; rw [ext_str, bts_str]
    exact digits_any _ (by rw [str_size, List.length_drop, List.length_take]; omega) w
theorem numc (L : List UInt8) (a b : Nat) (v : Int) (hab : b - a ≤ 4) (h : ((L.take b).drop a).all dig = true) (hv : num 0 ((L.take b).drop a) = v) : Hid (∀ w, Calls Tryd.prog 25 #[.string ((str L).extract a b)] w fun e w' => e = .returned (.int .i64 v) ∧ w = w') :=
  Lib.hid fun w => by
    subst hv; rw [ext_str, bts_str]
    exact number_any _ (by rw [str_size, List.length_drop, List.length_take]; omega) (by rw [bts_str]; exact h) w
theorem all_of {l l' : List UInt8} (h : l.all dig = true) (hs : ∀ x ∈ l', x ∈ l) : l'.all dig = true := List.all_eq_true.2 fun x hx => List.all_eq_true.1 h x (hs x hx)
theorem sub_all {L : List UInt8} (h : (L.take 8).all dig = true) (a b : Nat) (hb : b ≤ 8) : ((L.take b).drop a).all dig = true :=
  all_of h fun x hx => by
    have := List.mem_of_mem_drop hx
    rw [show L.take b = (L.take 8).take b by rw [List.take_take]; congr 1; omega] at this
    exact List.mem_of_mem_take this
theorem sub_all2 {L : List UInt8} (h : ((L.take 15).drop 9).all dig = true) (a b : Nat) (ha : 9 ≤ a) (hb : b ≤ 15) : ((L.take b).drop a).all dig = true :=
  all_of h fun x hx => by
    rw [show L.take b = (L.take 15).take b by rw [List.take_take]; congr 1; omega, List.drop_take, show a = 9 + (a - 9) by omega, ← List.drop_drop] at hx
    exact List.mem_of_mem_drop (List.mem_of_mem_take hx)
theorem rparse_any (L : List UInt8) (hn : L.length ≤ 1000) (w : World) : Calls Tryd.prog 9 #[.string (str L)] w fun e w' => e = .returned (.tuple #[val (pM L).1 (pM L).2.1, .int .i64 (pM L).2.2]) ∧ Below w.heap.size w w' := by
  have hs := str_size L
  have digc := fun a b r h => digc L a b r h hn
  have digc := fun (_ : List UInt8) a b r h => digc a b r h
  by_cases h8 : L.length = 8
  · have hsz : (str L).size = 8 := by omega
    have hf : form L = some (1, L, [48, 48, 48, 48, 48, 48]) := form_D h8
    have ht : L.take 8 = L := List.take_of_length_le (by omega)
    rw [pM_of hf, six]
    cases hd1 : L.all dig
    · have D1 := digc L 0 8 false (by rw [List.drop_zero, ht]; exact hd1)
      rw [show Mo.fields [4, 2, 2] L = none by rw [fields3 _ _ _ _ (by omega), hd1]; rfl]
      exact rp8d L w hsz D1
    · have D1 := digc L 0 8 true (by rw [List.drop_zero, ht]; exact hd1)
      obtain ⟨y, hy⟩ : ∃ y, y = num 0 (L.take 4) := ⟨_, rfl⟩
      obtain ⟨m, hm⟩ : ∃ m, m = num 0 ((L.drop 4).take 2) := ⟨_, rfl⟩
      obtain ⟨d, hdd⟩ : ∃ d, d = num 0 (L.drop (4 + 2)) := ⟨_, rfl⟩
      have hd8 : (L.take 8).all dig = true := by rw [ht]; exact hd1
      have N1 := numc L 0 4 y (by decide) (sub_all hd8 0 4 (by decide)) (by rw [hy]; simp)
      have N2 := numc L 4 6 m (by decide) (sub_all hd8 4 6 (by decide)) (by rw [hm]; simp [List.drop_take])
      have N3 := numc L 6 8 d (by decide) (sub_all hd8 6 8 (by decide)) (by rw [hdd, ht])
      rw [fields3 4 2 2 _ (by omega), hd1, if_pos rfl, ← hy, ← hm, ← hdd]
      clear hy hm hdd
      show Calls _ _ _ _ fun e w' => e = .returned (.tuple #[val (mk 1 y m d 0 0 0).1 (mk 1 y m d 0 0 0).2.1, .int .i64 (mk 1 y m d 0 0 0).2.2]) ∧ Below w.heap.size w w'
      by_cases hE : Civ.dayE y m d = 0
      · have hq : (Civ.dayE y m d != 0) = false := by simp [hE]
        have nb := day_bd hE
        rw [mk_good hE (by omega) (by omega) (by omega)]
        have := rp8ok L w hsz D1 y m d N1 N2 N3 hq nb.1 nb.2
        rwa [show Civ.day y m d * 86400 = Civ.day y m d * 86400 + (0 * 60 + 0) * 60 + 0 by omega] at this
      · have hq : (Civ.dayE y m d != 0) = true := by simp [hE]
        rw [mk_bad (by omega)]; exact rp8e L w hsz D1 y m d N1 N2 N3 hq
  · by_cases h15 : L.length = 15
    · have hsz : (str L).size = 15 := by omega
      have j8 : 8 < (str L).size := by omega
      have g8 := get_eq (str L) 8 j8
      rw [bts_str] at g8
      have e15 : (L.take 15).drop 9 = L.drop 9 := by rw [List.take_of_length_le (by omega)]
      have hform : L[8]? = some 84 → form L = some (2, L.take 8, (L.take 15).drop 9) := fun h => by rw [e15]; unfold form; rw [if_neg h8, if_pos ⟨h15, h⟩]
      have hnone : ¬ L[8]? = some 84 → form L = none := fun h => by unfold form; rw [if_neg h8, if_neg (fun x => h x.2), if_neg (fun x => by omega)]
      cases hd1 : (L.take 8).all dig
      · have D1 := digc L 0 8 false (by rw [List.drop_zero]; exact hd1)
        have e : pM L = (0, 0, 4) := by
          by_cases h84 : L[8]? = some 84
          · rw [pM_of (hform h84), show Mo.fields [4, 2, 2] (L.take 8) = none by rw [fields3 _ _ _ _ (by simp; omega), hd1]; rfl]; rfl
          · rw [pM_none (hnone h84)]
        rw [e]; exact rp15d L w hsz D1
      · have D1 := digc L 0 8 true (by rw [List.drop_zero]; exact hd1)
        by_cases h84 : L[8]? = some 84
        · have t8 : ((((str L)[8]'j8).toNat : Int) != 84) = false := by rw [bne_eq_false_iff_eq]; exact (g8 84).1 h84
          rw [pM_of (hform h84)]
          cases hd2 : ((L.take 15).drop 9).all dig
          · have D2 := digc L 9 15 false hd2
            have e : Mo.fields [2, 2, 2] ((L.take 15).drop 9) = none := by rw [fields3 _ _ _ _ (by simp; omega), hd2]; rfl
            rw [e, two_none]; exact rp15g L w hsz D1 _ j8 rfl t8 D2
          · have D2 := digc L 9 15 true hd2
            obtain ⟨y, hy⟩ : ∃ y, y = num 0 ((L.take 8).take 4) := ⟨_, rfl⟩
            obtain ⟨m, hm⟩ : ∃ m, m = num 0 (((L.take 8).drop 4).take 2) := ⟨_, rfl⟩
            obtain ⟨d, hdd⟩ : ∃ d, d = num 0 ((L.take 8).drop (4 + 2)) := ⟨_, rfl⟩
            obtain ⟨h, hh⟩ : ∃ h, h = num 0 (((L.take 15).drop 9).take 2) := ⟨_, rfl⟩
            obtain ⟨i, hi⟩ : ∃ i, i = num 0 ((((L.take 15).drop 9).drop 2).take 2) := ⟨_, rfl⟩
            obtain ⟨s, hs⟩ : ∃ s, s = num 0 (((L.take 15).drop 9).drop (2 + 2)) := ⟨_, rfl⟩
            have N1 := numc L 0 4 y (by decide) (sub_all hd1 0 4 (by decide)) (by rw [hy]; simp [List.take_take])
            have N2 := numc L 4 6 m (by decide) (sub_all hd1 4 6 (by decide)) (by rw [hm]; simp [List.drop_take, List.take_take])
            have N3 := numc L 6 8 d (by decide) (sub_all hd1 6 8 (by decide)) (by rw [hdd])
            have T1 := numc L 9 11 h (by decide) (sub_all2 hd2 9 11 (by decide) (by decide)) (by rw [hh]; simp [List.drop_take, List.take_take])
            have T2 := numc L 11 13 i (by decide) (sub_all2 hd2 11 13 (by decide) (by decide)) (by rw [hi]; simp [List.drop_take, List.take_take])
            have T3 := numc L 13 15 s (by decide) (sub_all2 hd2 13 15 (by decide) (by decide)) (by rw [hs]; simp [List.drop_take])
            have h0 : 0 ≤ h := by rw [hh]; exact (num_bd _ (all_of hd2 fun x hx => List.mem_of_mem_take hx)).1
            have i0 : 0 ≤ i := by rw [hi]; exact (num_bd _ (all_of hd2 fun x hx => List.mem_of_mem_drop (List.mem_of_mem_take hx))).1
            have s0 : 0 ≤ s := by rw [hs]; exact (num_bd _ (all_of hd2 fun x hx => List.mem_of_mem_drop hx)).1
            rw [fields3 4 2 2 _ (by simp; omega), fields3 2 2 2 _ (by simp; omega), hd1, hd2, if_pos rfl, if_pos rfl, ← hy, ← hm, ← hdd, ← hh, ← hi, ← hs]
            clear hy hm hdd hh hi hs
            show Calls _ _ _ _ fun e w' => e = .returned (.tuple #[val (mk 2 y m d h i s).1 (mk 2 y m d h i s).2.1, .int .i64 (mk 2 y m d h i s).2.2]) ∧ Below w.heap.size w w'
            by_cases hE : Civ.dayE y m d = 0
            · have hq : (Civ.dayE y m d != 0) = false := by simp [hE]
              have nb := day_bd hE
              by_cases h1 : 23 < h
              · rw [mk_bad (by omega)]; exact rp15h L w hsz D1 _ j8 rfl t8 D2 y m d N1 N2 N3 hq h i s T1 T2 T3 h1
              · by_cases h2 : 59 < i
                · rw [mk_bad (by omega)]; exact rp15i L w hsz D1 _ j8 rfl t8 D2 y m d N1 N2 N3 hq h i s T1 T2 T3 h1 h2
                · by_cases h3 : 59 < s
                  · rw [mk_bad (by omega)]; exact rp15s L w hsz D1 _ j8 rfl t8 D2 y m d N1 N2 N3 hq h i s T1 T2 T3 h1 h2 h3
                  · rw [mk_good hE h1 h2 h3]
                    have := rp15ok L w hsz D1 _ j8 rfl t8 D2 y m d N1 N2 N3 hq h i s T1 T2 T3 nb.1 nb.2 h0 i0 s0 h1 h2 h3
                    rwa [show Civ.day y m d * 86400 + h * 3600 + i * 60 + s = Civ.day y m d * 86400 + (h * 60 + i) * 60 + s by omega] at this
            · have hq : (Civ.dayE y m d != 0) = true := by simp [hE]
              rw [mk_bad (by omega)]; exact rp15e L w hsz D1 _ j8 rfl t8 D2 y m d N1 N2 N3 hq
        · have t8 : ((((str L)[8]'j8).toNat : Int) != 84) = true := by rw [bne_iff_ne]; exact fun hx => h84 ((g8 84).2 hx)
          rw [pM_none (hnone h84)]; exact rp15t L w hsz D1 _ j8 rfl t8
    · by_cases h16 : L.length = 16
      · have hsz : (str L).size = 16 := by omega
        have j8 : 8 < (str L).size := by omega
        have j15 : 15 < (str L).size := by omega
        have g8 := get_eq (str L) 8 j8
        have g15 := get_eq (str L) 15 j15
        rw [bts_str] at g8 g15
        obtain ⟨c15, hc15⟩ : ∃ c, (str L)[15]'j15 = c := ⟨_, rfl⟩
        by_cases h90 : L[15]? = some 90
        · have hform : L[8]? = some 84 → form L = some (3, L.take 8, (L.take 15).drop 9) := fun h => by unfold form; rw [if_neg h8, if_neg (fun x => h15 x.1), if_pos ⟨h16, h, h90⟩]
          have hnone : ¬ L[8]? = some 84 → form L = none := fun h => by unfold form; rw [if_neg h8, if_neg (fun x => h x.2), if_neg (fun x => h x.2.1)]
          have t15 : ((c15.toNat : Int) != 90) = false := by rw [bne_eq_false_iff_eq, ← hc15]; exact (g15 90).1 h90
          subst hc15
          cases hd1 : (L.take 8).all dig
          · have D1 := digc L 0 8 false (by rw [List.drop_zero]; exact hd1)
            have e : pM L = (0, 0, 4) := by
              by_cases h84 : L[8]? = some 84
              · rw [pM_of (hform h84), show Mo.fields [4, 2, 2] (L.take 8) = none by rw [fields3 _ _ _ _ (by simp; omega), hd1]; rfl]; rfl
              · rw [pM_none (hnone h84)]
            rw [e]; exact rp16d L w hsz _ j15 rfl t15 D1
          · have D1 := digc L 0 8 true (by rw [List.drop_zero]; exact hd1)
            by_cases h84 : L[8]? = some 84
            · have t8 : ((((str L)[8]'j8).toNat : Int) != 84) = false := by rw [bne_eq_false_iff_eq]; exact (g8 84).1 h84
              rw [pM_of (hform h84)]
              cases hd2 : ((L.take 15).drop 9).all dig
              · have D2 := digc L 9 15 false hd2
                have e : Mo.fields [2, 2, 2] ((L.take 15).drop 9) = none := by rw [fields3 _ _ _ _ (by simp; omega), hd2]; rfl
                rw [e, two_none]; exact rp16g L w hsz _ j15 rfl t15 D1 _ j8 rfl t8 D2
              · have D2 := digc L 9 15 true hd2
                obtain ⟨y, hy⟩ : ∃ y, y = num 0 ((L.take 8).take 4) := ⟨_, rfl⟩
                obtain ⟨m, hm⟩ : ∃ m, m = num 0 (((L.take 8).drop 4).take 2) := ⟨_, rfl⟩
                obtain ⟨d, hdd⟩ : ∃ d, d = num 0 ((L.take 8).drop (4 + 2)) := ⟨_, rfl⟩
                obtain ⟨h, hh⟩ : ∃ h, h = num 0 (((L.take 15).drop 9).take 2) := ⟨_, rfl⟩
                obtain ⟨i, hi⟩ : ∃ i, i = num 0 ((((L.take 15).drop 9).drop 2).take 2) := ⟨_, rfl⟩
                obtain ⟨s, hs⟩ : ∃ s, s = num 0 (((L.take 15).drop 9).drop (2 + 2)) := ⟨_, rfl⟩
                have N1 := numc L 0 4 y (by decide) (sub_all hd1 0 4 (by decide)) (by rw [hy]; simp [List.take_take])
                have N2 := numc L 4 6 m (by decide) (sub_all hd1 4 6 (by decide)) (by rw [hm]; simp [List.drop_take, List.take_take])
                have N3 := numc L 6 8 d (by decide) (sub_all hd1 6 8 (by decide)) (by rw [hdd])
                have T1 := numc L 9 11 h (by decide) (sub_all2 hd2 9 11 (by decide) (by decide)) (by rw [hh]; simp [List.drop_take, List.take_take])
                have T2 := numc L 11 13 i (by decide) (sub_all2 hd2 11 13 (by decide) (by decide)) (by rw [hi]; simp [List.drop_take, List.take_take])
                have T3 := numc L 13 15 s (by decide) (sub_all2 hd2 13 15 (by decide) (by decide)) (by rw [hs]; simp [List.drop_take])
                have h0 : 0 ≤ h := by rw [hh]; exact (num_bd _ (all_of hd2 fun x hx => List.mem_of_mem_take hx)).1
                have i0 : 0 ≤ i := by rw [hi]; exact (num_bd _ (all_of hd2 fun x hx => List.mem_of_mem_drop (List.mem_of_mem_take hx))).1
                have s0 : 0 ≤ s := by rw [hs]; exact (num_bd _ (all_of hd2 fun x hx => List.mem_of_mem_drop hx)).1
                rw [fields3 4 2 2 _ (by simp; omega), fields3 2 2 2 _ (by simp; omega), hd1, hd2, if_pos rfl, if_pos rfl, ← hy, ← hm, ← hdd, ← hh, ← hi, ← hs]
                clear hy hm hdd hh hi hs
                show Calls _ _ _ _ fun e w' => e = .returned (.tuple #[val (mk 3 y m d h i s).1 (mk 3 y m d h i s).2.1, .int .i64 (mk 3 y m d h i s).2.2]) ∧ Below w.heap.size w w'
                by_cases hE : Civ.dayE y m d = 0
                · have hq : (Civ.dayE y m d != 0) = false := by simp [hE]
                  have nb := day_bd hE
                  by_cases h1 : 23 < h
                  · rw [mk_bad (by omega)]; exact rp16h L w hsz _ j15 rfl t15 D1 _ j8 rfl t8 D2 y m d N1 N2 N3 hq h i s T1 T2 T3 h1
                  · by_cases h2 : 59 < i
                    · rw [mk_bad (by omega)]; exact rp16i L w hsz _ j15 rfl t15 D1 _ j8 rfl t8 D2 y m d N1 N2 N3 hq h i s T1 T2 T3 h1 h2
                    · by_cases h3 : 59 < s
                      · rw [mk_bad (by omega)]; exact rp16s L w hsz _ j15 rfl t15 D1 _ j8 rfl t8 D2 y m d N1 N2 N3 hq h i s T1 T2 T3 h1 h2 h3
                      · rw [mk_good hE h1 h2 h3]
                        have := rp16ok L w hsz _ j15 rfl t15 D1 _ j8 rfl t8 D2 y m d N1 N2 N3 hq h i s T1 T2 T3 nb.1 nb.2 h0 i0 s0 h1 h2 h3
                        rwa [show Civ.day y m d * 86400 + h * 3600 + i * 60 + s = Civ.day y m d * 86400 + (h * 60 + i) * 60 + s by omega] at this
                · have hq : (Civ.dayE y m d != 0) = true := by simp [hE]
                  rw [mk_bad (by omega)]; exact rp16e L w hsz _ j15 rfl t15 D1 _ j8 rfl t8 D2 y m d N1 N2 N3 hq
            · have t8 : ((((str L)[8]'j8).toNat : Int) != 84) = true := by rw [bne_iff_ne]; exact fun hx => h84 ((g8 84).2 hx)
              rw [pM_none (hnone h84)]; exact rp16t L w hsz _ j15 rfl t15 D1 _ j8 rfl t8
        · rw [pM_none (by unfold form; rw [if_neg h8, if_neg (fun x => h15 x.1), if_neg (fun x => h90 x.2.2)])]
          exact rp16z L w hsz c15 j15 hc15 (by rw [bne_iff_ne, ← hc15]; exact fun hx => h90 ((g15 90).2 hx))
      · rw [pM_none (by unfold form; rw [if_neg h8, if_neg (fun x => h15 x.1), if_neg (fun x => h16 x.1)])]
        exact rpOther L w (by simp; omega) (by simp; omega) (by simp; omega) (by simp; omega) (by simp; omega)
theorem chk_in' {k s : Int} (h : chk k s = 0) : why k s = 0 := by unfold chk at h; by_cases hw : why k s = 0; exact hw; rw [if_pos hw] at h; exact h
theorem date_bds {n : Int} (h1 : 0 ≤ n) (h2 : n ≤ 3652058) : 0 ≤ Civ.dateY n ∧ Civ.dateY n ≤ 9999 ∧ 0 ≤ Civ.dateM n ∧ Civ.dateM n ≤ 99 ∧ 0 ≤ Civ.dateD n ∧ Civ.dateD n ≤ 99 := by
  obtain ⟨a1, a2, b1, b2, c1, c2, _⟩ := Civ.date_spec h1 h2
  have := (Civ.len_bd (Civ.dateY n) (Civ.dateM n)).2
  omega
theorem print_any (k s : Int) (hk : 0 ≤ k ∧ k ≤ 255) (w : World) (hT : Tab w) : Calls Tryd.prog 10 #[val k s] w fun e w' => e = .returned (.tuple #[.string (str (prM k s)), .int .i64 (chk k s)]) ∧ Below w.heap.size w w' := by
  have FC := fun w => check_any k s hk w
  have FS := fun w => split_any k s hk w
  by_cases h : chk k s = 0
  · have hb := why_le (chk_in' h)
    have hd := date_bds (n := s / 86400) (by omega) (by omega)
    have FD := fun w hT => date_any (s / 86400) w hT
    rw [Civ.dateE_of (by omega) (by omega)] at FD
    rw [h] at FC ⊢
    rw [if_pos h, if_pos h] at FS
    have hp : prM k s = text k s := by unfold prM; rw [if_pos h]
    have hkk : k = 1 ∨ k = 2 ∨ k = 3 := by omega
    rw [hp]
    rcases hkk with rfl | rfl | rfl
    · rw [show text 1 s = wid 4 (Civ.dateY (s / 86400)) ++ wid 2 (Civ.dateM (s / 86400)) ++ wid 2 (Civ.dateD (s / 86400)) by simp [text]]
      exact pr1 s _ _ _ _ _ w hT (Lib.hid FC) (Lib.hid FS) (Lib.hid FD) hd.1 hd.2.1 hd.2.2.1 hd.2.2.2.1 hd.2.2.2.2.1 hd.2.2.2.2.2
    · have := pr2 s _ _ _ _ _ w hT (Lib.hid FC) (Lib.hid FS) (Lib.hid FD) hd.1 hd.2.1 hd.2.2.1 hd.2.2.2.1 hd.2.2.2.2.1 hd.2.2.2.2.2 (by omega) (by omega)
      rwa [show wid 4 (Civ.dateY (s / 86400)) ++ wid 2 (Civ.dateM (s / 86400)) ++ wid 2 (Civ.dateD (s / 86400)) ++ [84] ++ wid 2 (s % 86400 / 3600) ++ wid 2 (s % 86400 / 60 % 60) ++ wid 2 (s % 86400 % 60) = text 2 s by simp [text]] at this
    · have := pr3 s _ _ _ _ _ w hT (Lib.hid FC) (Lib.hid FS) (Lib.hid FD) hd.1 hd.2.1 hd.2.2.1 hd.2.2.2.1 hd.2.2.2.2.1 hd.2.2.2.2.2 (by omega) (by omega)
      rwa [show wid 4 (Civ.dateY (s / 86400)) ++ wid 2 (Civ.dateM (s / 86400)) ++ wid 2 (Civ.dateD (s / 86400)) ++ [84] ++ wid 2 (s % 86400 / 3600) ++ wid 2 (s % 86400 / 60 % 60) ++ wid 2 (s % 86400 % 60) ++ [90] = text 3 s by simp [text]] at this
  · rw [show prM k s = [] by unfold prM; rw [if_neg h]]
    exact prE k s _ w (by simp [h]) (Lib.hid FC)
theorem rprint_any (k s : Int) (hk : 0 ≤ k ∧ k ≤ 255) (w : World) : Calls Tryd.prog 11 #[val k s] w fun e w' => e = .returned (.tuple #[.string (str (prM k s)), .int .i64 (chk k s)]) ∧ Below w.heap.size w w' := by
  have FC := fun w => rcheck_any k s hk w
  by_cases h : chk k s = 0
  · have hb := why_le (chk_in' h)
    have hd := date_bds (n := s / 86400) (by omega) (by omega)
    have FD := fun w => rDate_any (s / 86400) w
    rw [Civ.dateE_of (by omega) (by omega)] at FD
    rw [h] at FC ⊢
    have hp : prM k s = text k s := by unfold prM; rw [if_pos h]
    have hkk : k = 1 ∨ k = 2 ∨ k = 3 := by omega
    rw [hp]
    have e60 : s % 86400 % 60 = s % 60 := by omega
    rcases hkk with rfl | rfl | rfl
    · rw [show text 1 s = wid 4 (Civ.dateY (s / 86400)) ++ wid 2 (Civ.dateM (s / 86400)) ++ wid 2 (Civ.dateD (s / 86400)) by simp [text]]
      exact rpr1 s _ _ _ w (Lib.hid FC) (Lib.hid FD) hb.2.2.1 hb.2.2.2 hd.1 hd.2.1 hd.2.2.1 hd.2.2.2.1 hd.2.2.2.2.1 hd.2.2.2.2.2
    · have := rpr2 s _ _ _ w (Lib.hid FC) (Lib.hid FD) hb.2.2.1 hb.2.2.2 hd.1 hd.2.1 hd.2.2.1 hd.2.2.2.1 hd.2.2.2.2.1 hd.2.2.2.2.2
      rwa [show wid 4 (Civ.dateY (s / 86400)) ++ wid 2 (Civ.dateM (s / 86400)) ++ wid 2 (Civ.dateD (s / 86400)) ++ ([84] ++ wid 2 (s % 86400 / 3600) ++ wid 2 (s % 86400 / 60 % 60) ++ wid 2 (s % 60)) = text 2 s by simp [text, e60]] at this
    · have := rpr3 s _ _ _ w (Lib.hid FC) (Lib.hid FD) hb.2.2.1 hb.2.2.2 hd.1 hd.2.1 hd.2.2.1 hd.2.2.2.1 hd.2.2.2.2.1 hd.2.2.2.2.2
      rwa [show wid 4 (Civ.dateY (s / 86400)) ++ wid 2 (Civ.dateM (s / 86400)) ++ wid 2 (Civ.dateD (s / 86400)) ++ ([84] ++ wid 2 (s % 86400 / 3600) ++ wid 2 (s % 86400 / 60 % 60) ++ wid 2 (s % 60)) ++ [90] = text 3 s by simp [text, e60]] at this
  · rw [show prM k s = [] by unfold prM; rw [if_neg h]]
    exact rprE k s _ w (by simp [h]) (Lib.hid FC)
end Go.Proofs.YtbjiiejgepgdeaaDoor.Ma

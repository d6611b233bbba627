/- The walk of the law DaysetNth (printed by gen_nth.py). -/
import Derived.Test.YtpfimkjfonijcaaDoorFe
import Derived.Test.YtpfimkjfonijcaaDoorFi
import Derived.Test.YtpfimkjfonijcaaDoorBase
import Derived.BigQuiet
namespace Go.Proofs.YtpfimkjfonijcaaDoor.Da
open Go.RowKit Ru Ut Cw Ra
theorem nat_one {k : Int} {p : Nat} (h1 : 1 ≤ k) (h : (k - 1).toNat = p) : k.toNat - 1 = p := by omega
theorem nat_two {k : Int} {n p : Nat} (h1 : 1 ≤ k) (h : ((n : Int) - k).toNat = p) : n - k.toNat = p := by omega
theorem cell_drewn (w : World) (B A : Array Value) (T T' : TypeId) (n i : Nat) : (((w.alloc (.cells B T)).drewN n).alloc (.cells A T')).cell? ⟨w.heap.size + 1, i, none⟩ = A[i]? := by
  have h0 := World.cell?_alloc_new ((w.alloc (.cells B T)).drewN n) A T' i
  rwa [show ((w.alloc (.cells B T)).drewN n).heap.size = w.heap.size + 1 from World.size_alloc _ _] at h0
theorem size_drewn (w : World) (o p : Obj) (n : Nat) : w.heap.size + 1 < (((w.alloc o).drewN n).alloc p).heap.size := by
  rw [World.size_alloc, show ((w.alloc o).drewN n).heap.size = w.heap.size + 1 from World.size_alloc _ _]; omega
theorem wide_D {x v : Int} : Wide (rD x v) := ⟨⟨q_cases (by simp [lst, rD]) (by simp [lst, rD]) (by simp [lst, rD]) (by simp [lst, rD]) (by simp [lst, rD]) (by simp [lst, rD]) (by simp [lst, rD]) (by simp [lst, rD]), by simp [rD]⟩, by simp [rD], q_cases (by simp [lst, rD]) (by simp [lst, rD]) (by simp [lst, rD]) (by simp [lst, rD]) (by simp [lst, rD]) (by simp [lst, rD]) (by simp [lst, rD]) (by simp [lst, rD])⟩
theorem ofD (W : World) (b : Nat) (x v a e : Int) (l : List Int) (hT : Tab W) (hb : b < W.heap.size) (c0 : W.cell? ⟨b, 0, none⟩ = some (.int .i64 x)) (c1 : W.cell? ⟨b, 1, none⟩ = some (.int .i64 v)) (hl : Dy.daysOf (rD x v) 0 a e = l) :
    Calls Tryd.prog 15 #[.agg #[.int .u8 5, .int .i64 1, .int .i64 0, .int .u8 0, .int .i64 0, .slice none 0 0, .slice none 0 0, .slice none 0 0, .slice (some ⟨b, 0, none⟩) 1 1, .slice none 0 0, .slice none 0 0, .slice none 0 0, .slice none 0 0, .slice none 0 0, .int .i64 0], .int .i64 0, .int .i64 a, .int .i64 e] W (Gives W l) := by
  have h := of_any W (rD x v) (svD b) 0 a e hT ⟨q_cases (nilI W) (nilI W) (nilI W) (nilI W) (nilI W) (nilI W) (nilI W) (nilI W), .inr ⟨by simp [rD], b, 0, 1, rfl, hb, by simp [rD], fun i hi => by
    obtain rfl : i = 0 := by simp [rD] at hi; omega
    exact ⟨c0, c1⟩⟩⟩ wide_D (by decide) (by decide)
  rw [hl] at h
  exact h
theorem idx4_0 (x y z u : Int) (w : World) : (Instr.index 37 (.agg #[.int .i64 x, .int .i64 y, .int .i64 z, .int .i64 u]) (.int .i64 0)).run Tryd.prog w = .ok (.int .i64 x) w := by kernel_rfl
attribute [local go_sem] idx4_0
theorem wks_yes {x a : Int} {k : Nat} (h : Civ.weekday (a + (k : Int)) = x) : wks x a (k + 1) = wks x a k ++ [a + (k : Int)] := by unfold wks; rw [pick, if_pos (by simpa using h)]
theorem wks_no {x a : Int} {k : Nat} (h : ¬ Civ.weekday (a + (k : Int)) = x) : wks x a (k + 1) = wks x a k := by unfold wks; rw [pick, if_neg (by simpa using h), List.append_nil]
set_option maxHeartbeats 16000000 in
set_option maxRecDepth 100000 in
theorem nth_false (yr n0 n1 n2 : Int) (w : World) (hT : Tab w) (r0 : 0 ≤ yr) (r1 : yr ≤ 65535) (p0 : 0 ≤ n0) (p1 : n0 ≤ 255) (q0 : 0 ≤ n1) (q1 : n1 ≤ 255) (s0 : 0 ≤ n2) (s1 : n2 ≤ 255) :
    Calls Tryd.prog 6 #[.int .u16 yr, .agg #[.int .u8 n0, .int .u8 n1, .int .u8 n2], .bool false] w fun e w' => e = .returned (.bool true) ∧ Below w.heap.size w w' := by
  obtain ⟨y, hy⟩ : ∃ y : Int, 1 + yr % 9999 = y := ⟨_, rfl⟩
  obtain ⟨m, hm⟩ : ∃ m : Int, 1 + n0 % 12 = m := ⟨_, rfl⟩
  obtain ⟨k, hk⟩ : ∃ k : Int, 1 + n1 % 5 = k := ⟨_, rfl⟩
  obtain ⟨x, hx⟩ : ∃ x : Int, n2 % 7 = x := ⟨_, rfl⟩
  obtain ⟨y1, y2⟩ : 1 ≤ y ∧ y ≤ 9999 := by omega
  obtain ⟨m1, m2⟩ : 1 ≤ m ∧ m ≤ 12 := by omega
  obtain ⟨k1, k5⟩ : 1 ≤ k ∧ k ≤ 5 := by omega
  obtain ⟨x0, x6⟩ : 0 ≤ x ∧ x ≤ 6 := by omega
  have hlaw := nth_law y1 y2 m1 m2 x0 x6 k1 k5
  have hM := (month_day (j := 0) y1 y2 m1 m2 (by omega) (by have := Civ.len_ge y1 y2 m1 m2; omega))
  have hge := Civ.len_ge y1 y2 m1 m2
  have hbd := Civ.len_bd y m
  have hM2 := (month_day (j := Civ.len y m - 1) y1 y2 m1 m2 (by omega) (by omega))
  have FD := fun w hT => day_any y m 1 w hT
  have ed := Civ.day_of (y := y) (m := m) (d := 1) (by omega) (by omega)
  rw [ed.1, ed.2, show Civ.ahead y + Civ.til y m + 1 - 1 = Civ.ahead y + Civ.til y m by omega] at FD
  have FL := fun w hT => len_any y m w hT
  simp only [] at hlaw hM hM2
  obtain ⟨a0, a1⟩ : 0 ≤ Civ.ahead y + Civ.til y m ∧ Civ.ahead y + Civ.til y m + Civ.len y m ≤ 3652059 := ⟨by omega, by omega⟩
  clear hM hM2 ed
  generalize Civ.ahead y + Civ.til y m = a at *
  generalize Civ.len y m = L at *
  obtain ⟨hsmall, hbig⟩ := hlaw
  have hlenA := pick_le (fun n => decide (Civ.weekday n = x)) a L.toNat
  change (wks x a L.toNat).length ≤ _ at hlenA
  obtain ⟨l, hl⟩ : ∃ l, Dy.daysOf (rD k x) 0 a (a + L) = l := ⟨_, rfl⟩
  have OF : ∀ W b, Tab W → b < W.heap.size → W.cell? ⟨b, 0, none⟩ = some (.int .i64 k) → W.cell? ⟨b, 1, none⟩ = some (.int .i64 x) → Calls Tryd.prog 15 #[.agg #[.int .u8 5, .int .i64 1, .int .i64 0, .int .u8 0, .int .i64 0, .slice none 0 0, .slice none 0 0, .slice none 0 0, .slice (some ⟨b, 0, none⟩) 1 1, .slice none 0 0, .slice none 0 0, .slice none 0 0, .slice none 0 0, .slice none 0 0, .int .i64 0], .int .i64 0, .int .i64 a, .int .i64 (a + L)] W (Gives W l) := fun W b t h c0 c1 => ofD W b k x a (a + L) l t h c0 c1 hl
  replace OF := Lib.hid OF
  replace FD := Lib.hid FD
  replace FL := Lib.hid FL
  replace hsmall := Lib.hid hsmall
  replace hbig := Lib.hid hbig
  replace hl := Lib.hid hl
  have HT := Lib.hid hT
  clear hT
  go_enter Tryd.func6, Tryd.ntmps6
  go_wp2
  go_quiet (fail)
  go_wp2_with (first
    | (go_at_call 20; (with_reducible refine (FD.out _ (HT.out.later (by (repeat' (first | assumption | exact Below.refl _ _ | apply Below.next_alloc | apply Base.below_drewN | (apply Below.next; rotate_left; assumption)))))).mono ?_); rintro e w' ⟨rfl, rfl⟩)
    | (go_at_call 18; (with_reducible refine (FL.out _ (HT.out.later (by (repeat' (first | assumption | exact Below.refl _ _ | apply Below.next_alloc | apply Base.below_drewN | (apply Below.next; rotate_left; assumption)))))).mono ?_); rintro e w' ⟨rfl, rfl⟩)
    | (go_at_call 15; (with_reducible refine (OF.out _ (w.heap.size + 1) (HT.out.later (by (repeat' (first | assumption | exact Below.refl _ _ | apply Below.next_alloc | apply Base.below_drewN | (apply Below.next; rotate_left; assumption))))) (size_drewn _ _ _ _) ((cell_drewn w _ _ _ _ _ 0).trans rfl) ((cell_drewn w _ _ _ _ _ 1).trans rfl)).mono ?_); rintro e w1 ⟨v1, rfl, hO1, hB1⟩; have b1 := Lib.hid (show Below w.heap.size w w1 from by (repeat' (first | assumption | exact Below.refl _ _ | apply Below.next_alloc | apply Base.below_drewN | (apply Below.next; rotate_left; assumption)))); replace hO1 := Lib.hid hO1))
  go_loopw [16, 17] (fun v i wr => ∃ q : Nat, q ≤ L.toNat ∧ i = .int .i64 (a + q) ∧ OwnI wr w1.heap.size v (wks x a q) ∧ Hid (Below w1.heap.size w1 wr)) (fun _ i _ => (a + L - intOf i).toNat)
  case atStart => exact ⟨0, by omega, by simp, OwnI.nil _ _, Lib.hid (Below.refl _ _)⟩
  case round =>
    obtain ⟨q, hq, rfl, hown, hB⟩ := hrel
    replace hown := Lib.hid hown
    have hql := pick_le (fun n => decide (Civ.weekday n = x)) a q
    change (wks x a q).length ≤ q at hql
    by_cases hqL : q < L.toNat
    · have FW := fun w => weekday_any (a + (q : Int)) w
      by_cases hd : Civ.weekday (a + (q : Int)) = x
      · rw [hd] at FW
        replace FW := Lib.hid FW
        have hnext := Lib.hid (wks_yes hd)
        clear hd
        have hlt : a + (q : Int) < a + L := by omega
        go_wp2_with (first
          | (go_at_call 21; (with_reducible refine (FW.out _).mono ?_); rintro e w' ⟨rfl, rfl⟩)
          | (at_builtin; refine push_int rfl _ _ rfl w1.heap.size _ (wks x a q) rfl (hown.out.below (by (repeat' (first | assumption | exact Below.refl _ _ | apply Below.next_alloc | apply Below.drew | (apply Below.next; rotate_left; assumption))))) rfl (by omega) (Below.size (by (repeat' (first | assumption | exact Below.refl _ _ | apply Below.next_alloc | apply Below.drew | (apply Below.next; rotate_left; assumption))))) ?_; intro v5 w5 hown5 hB5))
        go_roundw
        case rel => exact ⟨q + 1, by omega, by go_num, by rw [hnext.out]; exact hown5, Lib.hid (hB.out.trans hB5)⟩
        case measure => simp [intOf]; omega
      · have hnext := Lib.hid (wks_no hd)
        generalize Civ.weekday (a + (q : Int)) = d at *
        replace FW := Lib.hid FW
        have hlt : a + (q : Int) < a + L := by omega
        go_wp2_with (first
          | (go_at_call 21; (with_reducible refine (FW.out _).mono ?_); rintro e w' ⟨rfl, rfl⟩))
        go_roundw
        case rel => exact ⟨q + 1, by omega, by go_num, by rw [hnext.out]; exact hown.out, hB⟩
        case measure => simp [intOf]; omega
    · obtain rfl : q = L.toNat := by omega
      have hge2 : ¬ (a + ((L.toNat : Nat) : Int) < a + L) := by omega
      have b2 := Lib.hid (Below.next b1.out hB.out)
      have AW := Lib.hid (awake_any wr (HT.out.later b2.out))
      replace hsmall := hsmall.out
      replace hbig := hbig.out
      rw [hl.out] at hsmall hbig
      generalize wks x a L.toNat = A at *
      by_cases hlt : A.length < k.toNat
      · obtain rfl : l = [] := (hsmall hlt).1
        obtain ⟨c1, c2, rfl⟩ := hown.out.slice
        obtain ⟨c3, c4, rfl⟩ := hO1.out.slice
        have hk2 : (A.length : Int) < k := by omega
        clear hsmall hbig hown hO1
        go_wp2_with (first
          | (go_at_call 8; (with_reducible refine AW.out.mono ?_); rintro e w2 ⟨rfl, hB2⟩))
        go_ret
        exact ⟨rfl, Below.next b2.out hB2⟩
      · obtain ⟨z, _, hD, hI, hN, zl, zh, _⟩ := hbig (by omega)
        clear hsmall hbig
        obtain rfl : l = [z] := hD
        obtain ⟨b, c2, rfl, hb, hc⟩ := OwnI.pos hown.out (by omega)
        obtain ⟨g, c4, rfl, hg, hd⟩ := OwnI.pos hO1.out (by simp)
        have e0 := (hB.out.cell (p := ⟨g, 0, none⟩) hg).trans (hd 0 z rfl)
        have e1 := hc _ _ hI
        obtain ⟨d, hzd⟩ : ∃ d, z - a = d := ⟨_, rfl⟩
        rw [hzd] at hN
        have NT := nth_any wr z (HT.out.later b2.out)
        rw [hN] at NT
        have d0 : 0 ≤ d := by omega
        have d1 : d < 31 := by omega
        obtain ⟨p, hp⟩ : ∃ p : Nat, (k - 1).toNat = p := ⟨_, rfl⟩
        have i1 : k.toNat - 1 = p := nat_one k1 hp
        rw [i1] at e1
        obtain ⟨n, hn⟩ : ∃ n : Nat, A.length = n := ⟨_, rfl⟩
        rw [hn] at hlt
        clear i1
        rw [hn]
        have hk2 : ¬ ((n : Int) < k) := by omega
        have hk3 : 0 ≤ k - 1 := by omega
        have hk4 : k - 1 < (n : Int) := by omega
        generalize (Dy.about z).n1 = m1 at *
        generalize (Dy.about z).n2 = m2 at *
        generalize (Dy.about z).n3 = m3 at *
        replace NT := Lib.hid NT
        clear hown hO1 hc hd hN hn
        go_wp2_with (first
          | (go_at_call 12; (with_reducible refine NT.out.mono ?_); rintro e w3 ⟨rfl, hB3⟩; have b3 := Lib.hid (Below.next b2.out hB3))
          | (go_at_call 8; (with_reducible refine (awake_any _ (HT.out.later b3.out)).mono ?_); rintro e w4 ⟨rfl, hB4⟩))
        go_ret
        exact ⟨rfl, Below.next b3.out hB4⟩
set_option maxHeartbeats 16000000 in
set_option maxRecDepth 100000 in
theorem nth_true (yr n0 n1 n2 : Int) (w : World) (hT : Tab w) (r0 : 0 ≤ yr) (r1 : yr ≤ 65535) (p0 : 0 ≤ n0) (p1 : n0 ≤ 255) (q0 : 0 ≤ n1) (q1 : n1 ≤ 255) (s0 : 0 ≤ n2) (s1 : n2 ≤ 255) :
    Calls Tryd.prog 6 #[.int .u16 yr, .agg #[.int .u8 n0, .int .u8 n1, .int .u8 n2], .bool true] w fun e w' => e = .returned (.bool true) ∧ Below w.heap.size w w' := by
  obtain ⟨y, hy⟩ : ∃ y : Int, 1 + yr % 9999 = y := ⟨_, rfl⟩
  obtain ⟨m, hm⟩ : ∃ m : Int, 1 + n0 % 12 = m := ⟨_, rfl⟩
  obtain ⟨k, hk⟩ : ∃ k : Int, 1 + n1 % 5 = k := ⟨_, rfl⟩
  obtain ⟨x, hx⟩ : ∃ x : Int, n2 % 7 = x := ⟨_, rfl⟩
  obtain ⟨y1, y2⟩ : 1 ≤ y ∧ y ≤ 9999 := by omega
  obtain ⟨m1, m2⟩ : 1 ≤ m ∧ m ≤ 12 := by omega
  obtain ⟨k1, k5⟩ : 1 ≤ k ∧ k ≤ 5 := by omega
  obtain ⟨x0, x6⟩ : 0 ≤ x ∧ x ≤ 6 := by omega
  have hlaw := nth_law y1 y2 m1 m2 x0 x6 k1 k5
  have hM := (month_day (j := 0) y1 y2 m1 m2 (by omega) (by have := Civ.len_ge y1 y2 m1 m2; omega))
  have hge := Civ.len_ge y1 y2 m1 m2
  have hbd := Civ.len_bd y m
  have hM2 := (month_day (j := Civ.len y m - 1) y1 y2 m1 m2 (by omega) (by omega))
  have FD := fun w hT => day_any y m 1 w hT
  have ed := Civ.day_of (y := y) (m := m) (d := 1) (by omega) (by omega)
  rw [ed.1, ed.2, show Civ.ahead y + Civ.til y m + 1 - 1 = Civ.ahead y + Civ.til y m by omega] at FD
  have FL := fun w hT => len_any y m w hT
  simp only [] at hlaw hM hM2
  obtain ⟨a0, a1⟩ : 0 ≤ Civ.ahead y + Civ.til y m ∧ Civ.ahead y + Civ.til y m + Civ.len y m ≤ 3652059 := ⟨by omega, by omega⟩
  clear hM hM2 ed
  generalize Civ.ahead y + Civ.til y m = a at *
  generalize Civ.len y m = L at *
  obtain ⟨hsmall, hbig⟩ := hlaw
  have hlenA := pick_le (fun n => decide (Civ.weekday n = x)) a L.toNat
  change (wks x a L.toNat).length ≤ _ at hlenA
  obtain ⟨l, hl⟩ : ∃ l, Dy.daysOf (rD (-k) x) 0 a (a + L) = l := ⟨_, rfl⟩
  have OF : ∀ W b, Tab W → b < W.heap.size → W.cell? ⟨b, 0, none⟩ = some (.int .i64 (-k)) → W.cell? ⟨b, 1, none⟩ = some (.int .i64 x) → Calls Tryd.prog 15 #[.agg #[.int .u8 5, .int .i64 1, .int .i64 0, .int .u8 0, .int .i64 0, .slice none 0 0, .slice none 0 0, .slice none 0 0, .slice (some ⟨b, 0, none⟩) 1 1, .slice none 0 0, .slice none 0 0, .slice none 0 0, .slice none 0 0, .slice none 0 0, .int .i64 0], .int .i64 0, .int .i64 a, .int .i64 (a + L)] W (Gives W l) := fun W b t h c0 c1 => ofD W b (-k) x a (a + L) l t h c0 c1 hl
  replace OF := Lib.hid OF
  replace FD := Lib.hid FD
  replace FL := Lib.hid FL
  replace hsmall := Lib.hid hsmall
  replace hbig := Lib.hid hbig
  replace hl := Lib.hid hl
  have HT := Lib.hid hT
  clear hT
  go_enter Tryd.func6, Tryd.ntmps6
  go_wp2
  go_quiet (fail)
  go_wp2_with (first
    | (go_at_call 20; (with_reducible refine (FD.out _ (HT.out.later (by (repeat' (first | assumption | exact Below.refl _ _ | apply Below.next_alloc | apply Base.below_drewN | (apply Below.next; rotate_left; assumption)))))).mono ?_); rintro e w' ⟨rfl, rfl⟩)
    | (go_at_call 18; (with_reducible refine (FL.out _ (HT.out.later (by (repeat' (first | assumption | exact Below.refl _ _ | apply Below.next_alloc | apply Base.below_drewN | (apply Below.next; rotate_left; assumption)))))).mono ?_); rintro e w' ⟨rfl, rfl⟩)
    | (go_at_call 15; (with_reducible refine (OF.out _ (w.heap.size + 1) (HT.out.later (by (repeat' (first | assumption | exact Below.refl _ _ | apply Below.next_alloc | apply Base.below_drewN | (apply Below.next; rotate_left; assumption))))) (size_drewn _ _ _ _) ((cell_drewn w _ _ _ _ _ 0).trans rfl) ((cell_drewn w _ _ _ _ _ 1).trans rfl)).mono ?_); rintro e w1 ⟨v1, rfl, hO1, hB1⟩; have b1 := Lib.hid (show Below w.heap.size w w1 from by (repeat' (first | assumption | exact Below.refl _ _ | apply Below.next_alloc | apply Base.below_drewN | (apply Below.next; rotate_left; assumption)))); replace hO1 := Lib.hid hO1))
  go_loopw [16, 17] (fun v i wr => ∃ q : Nat, q ≤ L.toNat ∧ i = .int .i64 (a + q) ∧ OwnI wr w1.heap.size v (wks x a q) ∧ Hid (Below w1.heap.size w1 wr)) (fun _ i _ => (a + L - intOf i).toNat)
  case atStart => exact ⟨0, by omega, by simp, OwnI.nil _ _, Lib.hid (Below.refl _ _)⟩
  case round =>
    obtain ⟨q, hq, rfl, hown, hB⟩ := hrel
    replace hown := Lib.hid hown
    have hql := pick_le (fun n => decide (Civ.weekday n = x)) a q
    change (wks x a q).length ≤ q at hql
    by_cases hqL : q < L.toNat
    · have FW := fun w => weekday_any (a + (q : Int)) w
      by_cases hd : Civ.weekday (a + (q : Int)) = x
      · rw [hd] at FW
        replace FW := Lib.hid FW
        have hnext := Lib.hid (wks_yes hd)
        clear hd
        have hlt : a + (q : Int) < a + L := by omega
        go_wp2_with (first
          | (go_at_call 21; (with_reducible refine (FW.out _).mono ?_); rintro e w' ⟨rfl, rfl⟩)
          | (at_builtin; refine push_int rfl _ _ rfl w1.heap.size _ (wks x a q) rfl (hown.out.below (by (repeat' (first | assumption | exact Below.refl _ _ | apply Below.next_alloc | apply Below.drew | (apply Below.next; rotate_left; assumption))))) rfl (by omega) (Below.size (by (repeat' (first | assumption | exact Below.refl _ _ | apply Below.next_alloc | apply Below.drew | (apply Below.next; rotate_left; assumption))))) ?_; intro v5 w5 hown5 hB5))
        go_roundw
        case rel => exact ⟨q + 1, by omega, by go_num, by rw [hnext.out]; exact hown5, Lib.hid (hB.out.trans hB5)⟩
        case measure => simp [intOf]; omega
      · have hnext := Lib.hid (wks_no hd)
        generalize Civ.weekday (a + (q : Int)) = d at *
        replace FW := Lib.hid FW
        have hlt : a + (q : Int) < a + L := by omega
        go_wp2_with (first
          | (go_at_call 21; (with_reducible refine (FW.out _).mono ?_); rintro e w' ⟨rfl, rfl⟩))
        go_roundw
        case rel => exact ⟨q + 1, by omega, by go_num, by rw [hnext.out]; exact hown.out, hB⟩
        case measure => simp [intOf]; omega
    · obtain rfl : q = L.toNat := by omega
      have hge2 : ¬ (a + ((L.toNat : Nat) : Int) < a + L) := by omega
      have b2 := Lib.hid (Below.next b1.out hB.out)
      have AW := Lib.hid (awake_any wr (HT.out.later b2.out))
      replace hsmall := hsmall.out
      replace hbig := hbig.out
      rw [hl.out] at hsmall hbig
      generalize wks x a L.toNat = A at *
      by_cases hlt : A.length < k.toNat
      · obtain rfl : l = [] := (hsmall hlt).2
        obtain ⟨c1, c2, rfl⟩ := hown.out.slice
        obtain ⟨c3, c4, rfl⟩ := hO1.out.slice
        have hk2 : (A.length : Int) < k := by omega
        clear hsmall hbig hown hO1
        go_wp2_with (first
          | (go_at_call 8; (with_reducible refine AW.out.mono ?_); rintro e w2 ⟨rfl, hB2⟩))
        go_ret
        exact ⟨rfl, Below.next b2.out hB2⟩
      · obtain ⟨u, z, _, hJ, _, _, _, hD, hI, hN, zl, zh⟩ := hbig (by omega)
        clear hsmall hbig
        obtain rfl : l = [z] := hD
        obtain ⟨b, c2, rfl, hb, hc⟩ := OwnI.pos hown.out (by omega)
        obtain ⟨g, c4, rfl, hg, hd⟩ := OwnI.pos hO1.out (by simp)
        have e0 := (hB.out.cell (p := ⟨g, 0, none⟩) hg).trans (hd 0 z rfl)
        have e1 := hc _ _ hI
        have e2 := hc _ _ hJ
        obtain ⟨d, hzd⟩ : ∃ d, z - a = d := ⟨_, rfl⟩
        rw [hzd] at hN
        have NT := nth_any wr z (HT.out.later b2.out)
        rw [hN] at NT
        have d0 : 0 ≤ d := by omega
        have d1 : d < 31 := by omega
        obtain ⟨p, hp⟩ : ∃ p : Nat, (k - 1).toNat = p := ⟨_, rfl⟩
        have i1 : k.toNat - 1 = p := nat_one k1 hp
        rw [i1] at e2
        obtain ⟨n, hn⟩ : ∃ n : Nat, A.length = n := ⟨_, rfl⟩
        rw [hn] at hlt
        rw [hn] at e1
        obtain ⟨o, ho⟩ : ∃ o : Nat, ((n : Int) - k).toNat = o := ⟨_, rfl⟩
        have i2 : n - k.toNat = o := nat_two k1 ho
        rw [i2] at e1
        clear i1 i2
        rw [hn]
        have hk2 : ¬ ((n : Int) < k) := by omega
        have hk3 : 0 ≤ k - 1 := by omega
        have hk4 : k - 1 < (n : Int) := by omega
        have hn31 : (n : Int) ≤ 31 := by omega
        have hk5 : 0 ≤ (n : Int) - k := by omega
        have hk6 : (n : Int) - k < (n : Int) := by omega
        generalize (Dy.about z).n1 = m1 at *
        generalize (Dy.about z).n2 = m2 at *
        generalize (Dy.about z).n3 = m3 at *
        replace NT := Lib.hid NT
        clear hown hO1 hc hd hN hn
        go_wp2_with (first
          | (go_at_call 12; (with_reducible refine NT.out.mono ?_); rintro e w3 ⟨rfl, hB3⟩; have b3 := Lib.hid (Below.next b2.out hB3))
          | (go_at_call 8; (with_reducible refine (awake_any _ (HT.out.later b3.out)).mono ?_); rintro e w4 ⟨rfl, hB4⟩))
        go_ret
        exact ⟨rfl, Below.next b3.out hB4⟩
theorem nth_any' (yr n0 n1 n2 : Int) (b : Bool) (w : World) (hT : Tab w) (r0 : 0 ≤ yr) (r1 : yr ≤ 65535) (p0 : 0 ≤ n0) (p1 : n0 ≤ 255) (q0 : 0 ≤ n1) (q1 : n1 ≤ 255) (s0 : 0 ≤ n2) (s1 : n2 ≤ 255) :
    Calls Tryd.prog 6 #[.int .u16 yr, .agg #[.int .u8 n0, .int .u8 n1, .int .u8 n2], .bool b] w fun e w' => e = .returned (.bool true) ∧ Below w.heap.size w w' := by
  cases b
  · exact nth_false yr n0 n1 n2 w hT r0 r1 p0 p1 q0 q1 s0 s1
  · exact nth_true yr n0 n1 n2 w hT r0 r1 p0 p1 q0 q1 s0 s1
end Go.Proofs.YtpfimkjfonijcaaDoor.Da

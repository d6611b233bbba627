/- The walks through moment's Print, a theorem a kind (printed by gen_print.py). -/
import Derived.Test.YtbjiiejgepgdeaaDoorMi
namespace Go.Proofs.YtbjiiejgepgdeaaDoor.Ma
open Go.RowKit Mo Ut Cw
theorem lay_c {base : Nat} {v : Value} {L : List UInt8} {n wd : Int} {w : World} (hown : Row base w v L) (k : Nat) (hk : wd = k) (h0 : 0 ≤ n) (h1 : n ≤ 9999) (hw0 : 1 ≤ k) (hw : k ≤ 4) (hL : L.length ≤ 100) (hbase : base ≤ w.heap.size) :
    Calls Tryd.prog 27 #[v, .int .i64 n, .int .i64 wd] w fun e w' => ∃ v', e = .returned v' ∧ Row base w' v' (L ++ wid k n) ∧ Below base w w' := by
  subst hk; exact lay_any base v L n k h0 h1 hw0 hw hL w hown hbase
theorem lay_0 {n wd : Int} {w : World} (k : Nat) (hk : wd = k) (h0 : 0 ≤ n) (h1 : n ≤ 9999) (hw0 : 1 ≤ k) (hw : k ≤ 4) :
    Calls Tryd.prog 27 #[.slice none 0 0, .int .i64 n, .int .i64 wd] w fun e w' => ∃ v', e = .returned v' ∧ Row w.heap.size w' v' (wid k n) ∧ Below w.heap.size w w' :=
  lay_c (L := []) (World.ownsRow_nil _ _ _ _) k hk h0 h1 hw0 hw (by decide) (Nat.le_refl _)
theorem conv_row {base : Nat} {w : World} {v : Value} {L : List UInt8} (h : Row base w v L) (hL : 0 < L.length) : (convert 62 9 v).run Tryd.prog w = .ok (.string (str L)) w := by
  obtain ⟨g, cap, rfl, _, _, _, _, hc⟩ := ownsRow_pos h hL
  exact run_convert_bytes_back w _ _ 5 ⟨g, 0, none⟩ cap L Tryd.underlying62 Tryd.underlying5 Tryd.underlying9 (fun j hj => by
    rw [Addr.add_lit, Nat.zero_add]
    exact hc j _ (by unfold u8s; rw [List.getElem?_map, List.getElem?_eq_getElem hj]; rfl))
theorem Row.push {base : Nat} {w : World} {v : Value} {L : List UInt8} (x : UInt8) (h : w.ownsRow base 5 1 v (L.length + 1) (u8s L ++ [.int .u8 x.toNat])) : Row base w v (L ++ [x]) :=
  ownsRow_cast h rfl (by simp) (by rw [u8s_app]; rfl)
theorem later {base : Nat} {W W2 : World} {g i : Nat} {v : Value} (hB : Below base W W2) (hg : g < base) (hc : W.cell? ⟨g, i, none⟩ = some v) : W2.cell? ⟨g, i, none⟩ = some v := (hB.cell (p := ⟨g, i, none⟩) hg).trans hc
set_option maxHeartbeats 2000000 in
set_option maxRecDepth 100000 in
theorem pr1 (s n r y m d : Int) (w : World) (hT : Tab w) (FC : Hid (∀ w, Calls Tryd.prog 16 #[.agg #[.int .u8 1, .int .i64 s]] w fun e w' => e = .returned (.int .i64 0) ∧ Below w.heap.size w w'))
    (FS : Hid (∀ w, Calls Tryd.prog 12 #[.agg #[.int .u8 1, .int .i64 s]] w fun e w' => e = .returned (.tuple #[.int .i64 n, .int .i64 r]) ∧ Below w.heap.size w w'))
    (FD : Hid (∀ w, Tab w → Calls Tryd.prog 26 #[.int .i64 n] w fun e w' => e = .returned (.tuple #[.int .i64 y, .int .i64 m, .int .i64 d, .int .i64 0]) ∧ w = w'))
    (y0 : 0 ≤ y) (y1 : y ≤ 9999) (m0 : 0 ≤ m) (m1 : m ≤ 99) (d0 : 0 ≤ d) (d1 : d ≤ 99) :
    Calls Tryd.prog 10 #[val 1 s] w fun e w' => e = .returned (.tuple #[.string (str (wid 4 y ++ wid 2 m ++ wid 2 d)), .int .i64 0]) ∧ Below w.heap.size w w' := by
  obtain ⟨i0, hi, hz0, hz1, hz2⟩ := info_parts info8
  have HT := Lib.hid hT
  clear hT
  unfold val
  go_enter Tryd.func10, Tryd.ntmps10
  go_wp2_with (first
    | (go_at_call 27; refine (lay_c R5 2 rfl (by omega) (by omega) (by decide) (by decide) (by simp [wid_len]) (by omega)).mono ?_; rintro e w6 ⟨v6, rfl, R6, hB6⟩; clear R5; have z6 := hB6.size; have c0 := later hB6 (by omega) c0; have hcv := conv_row R6 (by simp [wid_len]))
    | (go_at_call 27; refine (lay_c R4 2 rfl (by omega) (by omega) (by decide) (by decide) (by simp [wid_len]) (by omega)).mono ?_; rintro e w5 ⟨v5, rfl, R5, hB5⟩; clear R4; have z5 := hB5.size; have c0 := later hB5 (by omega) c0)
    | (go_at_call 27; refine (lay_0 4 rfl (by omega) (by omega) (by decide) (by decide)).mono ?_; rintro e w4 ⟨v4, rfl, R4, hB4⟩; have z4 := hB4.size; have hlt4 := hlt2; have c0 := later hB4 hlt2 c0)
    | (go_at_call 26; refine (FD.out _ HT2).mono ?_; rintro e w' ⟨rfl, rfl⟩; clear FD)
    | (go_at_call 12; refine (FS.out _).mono ?_; rintro e w2 ⟨rfl, hB2⟩; have c0 := later hB2 hlt1 c0; have c1 := later hB2 hlt1 c1; have hlt2 := Nat.lt_of_lt_of_le hlt1 hB2.size; have HT2 := HT.out.later (Below.next (head hB1) hB2); clear FS)
    | (go_at_call 16; refine (FC.out _).mono ?_; rintro e w1 ⟨rfl, hB1⟩; obtain ⟨hlt1, c0, c1⟩ := boxed hB1; clear FC))
  go_ret2
  exact ⟨rfl, Below.next (Below.next (head hB1) hB2) (((hB4).trans hB5).trans hB6)⟩
set_option maxHeartbeats 2000000 in
set_option maxRecDepth 100000 in
theorem pr2 (s n r y m d : Int) (w : World) (hT : Tab w) (FC : Hid (∀ w, Calls Tryd.prog 16 #[.agg #[.int .u8 2, .int .i64 s]] w fun e w' => e = .returned (.int .i64 0) ∧ Below w.heap.size w w'))
    (FS : Hid (∀ w, Calls Tryd.prog 12 #[.agg #[.int .u8 2, .int .i64 s]] w fun e w' => e = .returned (.tuple #[.int .i64 n, .int .i64 r]) ∧ Below w.heap.size w w'))
    (FD : Hid (∀ w, Tab w → Calls Tryd.prog 26 #[.int .i64 n] w fun e w' => e = .returned (.tuple #[.int .i64 y, .int .i64 m, .int .i64 d, .int .i64 0]) ∧ w = w'))
    (y0 : 0 ≤ y) (y1 : y ≤ 9999) (m0 : 0 ≤ m) (m1 : m ≤ 99) (d0 : 0 ≤ d) (d1 : d ≤ 99) (r0 : 0 ≤ r) (r1 : r < 86400) :
    Calls Tryd.prog 10 #[val 2 s] w fun e w' => e = .returned (.tuple #[.string (str (wid 4 y ++ wid 2 m ++ wid 2 d ++ [84] ++ wid 2 (r / 3600) ++ wid 2 (r / 60 % 60) ++ wid 2 (r % 60))), .int .i64 0]) ∧ Below w.heap.size w w' := by
  obtain ⟨i0, hi, hz0, hz1, hz2⟩ := info_parts info8
  have HT := Lib.hid hT
  clear hT
  unfold val
  go_enter Tryd.func10, Tryd.ntmps10
  go_wp2_with (first
    | (go_at_call 27; refine (lay_c R9 2 rfl (by omega) (by omega) (by decide) (by decide) (by simp [wid_len]) (by omega)).mono ?_; rintro e w10 ⟨v10, rfl, R10, hB10⟩; clear R9; have z10 := hB10.size; have c0 := later hB10 (by omega) c0; have hcv := conv_row R10 (by simp [wid_len]))
    | (go_at_call 27; refine (lay_c R8 2 rfl (by omega) (by omega) (by decide) (by decide) (by simp [wid_len]) (by omega)).mono ?_; rintro e w9 ⟨v9, rfl, R9, hB9⟩; clear R8; have z9 := hB9.size; have c0 := later hB9 (by omega) c0)
    | (go_at_call 27; refine (lay_c R7 2 rfl (by omega) (by omega) (by decide) (by decide) (by simp [wid_len]) (by omega)).mono ?_; rintro e w8 ⟨v8, rfl, R8, hB8⟩; clear R7; have z8 := hB8.size; have c0 := later hB8 (by omega) c0)
    | (at_builtin; refine wpList_append_own _ rfl _ _ _ rfl w2.heap.size 5 i0 _ 1 1 Tryd.underlying62 hi hz0 hz1 hz2 rfl (by decide) _ _ _ rfl (World.ownsRow.alloc R6 _) ⟨w6.heap.size, 0, none⟩ 1 1 [.int .u8 84] rfl rfl (World.news_of_block (cs := #[.int .u8 84]) (t := 5) (fr := (0, 0)) (heap_alloc_new w6 _)) (by simp [Value.oneCell']) (by simp [wid_len, maxLen]) (by simp [wid_len]) (by simp; omega) ?_; intro v7 w7 hown7 hg7 _; have hB7 := ((Below.refl w2.heap.size w6).alloc (by omega) _).grown hg7 (by simp; omega) (fun k hk => (World.ownsRow.lt R6 k hk).1); have R7 := Row.push 84 hown7; clear hown7 hg7 R6; have z7 := hB7.size; have c0 := later hB7 (by omega) c0)
    | (go_at_call 27; refine (lay_c R5 2 rfl (by omega) (by omega) (by decide) (by decide) (by simp [wid_len]) (by omega)).mono ?_; rintro e w6 ⟨v6, rfl, R6, hB6⟩; clear R5; have z6 := hB6.size; have c0 := later hB6 (by omega) c0)
    | (go_at_call 27; refine (lay_c R4 2 rfl (by omega) (by omega) (by decide) (by decide) (by simp [wid_len]) (by omega)).mono ?_; rintro e w5 ⟨v5, rfl, R5, hB5⟩; clear R4; have z5 := hB5.size; have c0 := later hB5 (by omega) c0)
    | (go_at_call 27; refine (lay_0 4 rfl (by omega) (by omega) (by decide) (by decide)).mono ?_; rintro e w4 ⟨v4, rfl, R4, hB4⟩; have z4 := hB4.size; have hlt4 := hlt2; have c0 := later hB4 hlt2 c0)
    | (go_at_call 26; refine (FD.out _ HT2).mono ?_; rintro e w' ⟨rfl, rfl⟩; clear FD)
    | (go_at_call 12; refine (FS.out _).mono ?_; rintro e w2 ⟨rfl, hB2⟩; have c0 := later hB2 hlt1 c0; have c1 := later hB2 hlt1 c1; have hlt2 := Nat.lt_of_lt_of_le hlt1 hB2.size; have HT2 := HT.out.later (Below.next (head hB1) hB2); clear FS)
    | (go_at_call 16; refine (FC.out _).mono ?_; rintro e w1 ⟨rfl, hB1⟩; obtain ⟨hlt1, c0, c1⟩ := boxed hB1; clear FC))
  go_ret2
  exact ⟨rfl, Below.next (Below.next (head hB1) hB2) (((((((hB4).trans hB5).trans hB6).trans hB7).trans hB8).trans hB9).trans hB10)⟩
set_option maxHeartbeats 2000000 in
set_option maxRecDepth 100000 in
theorem pr3 (s n r y m d : Int) (w : World) (hT : Tab w) (FC : Hid (∀ w, Calls Tryd.prog 16 #[.agg #[.int .u8 3, .int .i64 s]] w fun e w' => e = .returned (.int .i64 0) ∧ Below w.heap.size w w'))
    (FS : Hid (∀ w, Calls Tryd.prog 12 #[.agg #[.int .u8 3, .int .i64 s]] w fun e w' => e = .returned (.tuple #[.int .i64 n, .int .i64 r]) ∧ Below w.heap.size w w'))
    (FD : Hid (∀ w, Tab w → Calls Tryd.prog 26 #[.int .i64 n] w fun e w' => e = .returned (.tuple #[.int .i64 y, .int .i64 m, .int .i64 d, .int .i64 0]) ∧ w = w'))
    (y0 : 0 ≤ y) (y1 : y ≤ 9999) (m0 : 0 ≤ m) (m1 : m ≤ 99) (d0 : 0 ≤ d) (d1 : d ≤ 99) (r0 : 0 ≤ r) (r1 : r < 86400) :
    Calls Tryd.prog 10 #[val 3 s] w fun e w' => e = .returned (.tuple #[.string (str (wid 4 y ++ wid 2 m ++ wid 2 d ++ [84] ++ wid 2 (r / 3600) ++ wid 2 (r / 60 % 60) ++ wid 2 (r % 60) ++ [90])), .int .i64 0]) ∧ Below w.heap.size w w' := by
  obtain ⟨i0, hi, hz0, hz1, hz2⟩ := info_parts info8
  have HT := Lib.hid hT
  clear hT
  unfold val
  go_enter Tryd.func10, Tryd.ntmps10
  go_wp2_with (first
    | (at_builtin; refine wpList_append_own _ rfl _ _ _ rfl w2.heap.size 5 i0 _ 1 1 Tryd.underlying62 hi hz0 hz1 hz2 rfl (by decide) _ _ _ rfl (World.ownsRow.alloc R10 _) ⟨w10.heap.size, 0, none⟩ 1 1 [.int .u8 90] rfl rfl (World.news_of_block (cs := #[.int .u8 90]) (t := 5) (fr := (0, 0)) (heap_alloc_new w10 _)) (by simp [Value.oneCell']) (by simp [wid_len, maxLen]) (by simp [wid_len]) (by simp; omega) ?_; intro v11 w11 hown11 hg11 _; have hB11 := ((Below.refl w2.heap.size w10).alloc (by omega) _).grown hg11 (by simp; omega) (fun k hk => (World.ownsRow.lt R10 k hk).1); have R11 := Row.push 90 hown11; clear hown11 hg11 R10; have z11 := hB11.size; have c0 := later hB11 (by omega) c0; have hcv := conv_row R11 (by simp [wid_len]))
    | (go_at_call 27; refine (lay_c R9 2 rfl (by omega) (by omega) (by decide) (by decide) (by simp [wid_len]) (by omega)).mono ?_; rintro e w10 ⟨v10, rfl, R10, hB10⟩; clear R9; have z10 := hB10.size; have c0 := later hB10 (by omega) c0)
    | (go_at_call 27; refine (lay_c R8 2 rfl (by omega) (by omega) (by decide) (by decide) (by simp [wid_len]) (by omega)).mono ?_; rintro e w9 ⟨v9, rfl, R9, hB9⟩; clear R8; have z9 := hB9.size; have c0 := later hB9 (by omega) c0)
    | (go_at_call 27; refine (lay_c R7 2 rfl (by omega) (by omega) (by decide) (by decide) (by simp [wid_len]) (by omega)).mono ?_; rintro e w8 ⟨v8, rfl, R8, hB8⟩; clear R7; have z8 := hB8.size; have c0 := later hB8 (by omega) c0)
    | (at_builtin; refine wpList_append_own _ rfl _ _ _ rfl w2.heap.size 5 i0 _ 1 1 Tryd.underlying62 hi hz0 hz1 hz2 rfl (by decide) _ _ _ rfl (World.ownsRow.alloc R6 _) ⟨w6.heap.size, 0, none⟩ 1 1 [.int .u8 84] rfl rfl (World.news_of_block (cs := #[.int .u8 84]) (t := 5) (fr := (0, 0)) (heap_alloc_new w6 _)) (by simp [Value.oneCell']) (by simp [wid_len, maxLen]) (by simp [wid_len]) (by simp; omega) ?_; intro v7 w7 hown7 hg7 _; have hB7 := ((Below.refl w2.heap.size w6).alloc (by omega) _).grown hg7 (by simp; omega) (fun k hk => (World.ownsRow.lt R6 k hk).1); have R7 := Row.push 84 hown7; clear hown7 hg7 R6; have z7 := hB7.size; have c0 := later hB7 (by omega) c0)
    | (go_at_call 27; refine (lay_c R5 2 rfl (by omega) (by omega) (by decide) (by decide) (by simp [wid_len]) (by omega)).mono ?_; rintro e w6 ⟨v6, rfl, R6, hB6⟩; clear R5; have z6 := hB6.size; have c0 := later hB6 (by omega) c0)
    | (go_at_call 27; refine (lay_c R4 2 rfl (by omega) (by omega) (by decide) (by decide) (by simp [wid_len]) (by omega)).mono ?_; rintro e w5 ⟨v5, rfl, R5, hB5⟩; clear R4; have z5 := hB5.size; have c0 := later hB5 (by omega) c0)
    | (go_at_call 27; refine (lay_0 4 rfl (by omega) (by omega) (by decide) (by decide)).mono ?_; rintro e w4 ⟨v4, rfl, R4, hB4⟩; have z4 := hB4.size; have hlt4 := hlt2; have c0 := later hB4 hlt2 c0)
    | (go_at_call 26; refine (FD.out _ HT2).mono ?_; rintro e w' ⟨rfl, rfl⟩; clear FD)
    | (go_at_call 12; refine (FS.out _).mono ?_; rintro e w2 ⟨rfl, hB2⟩; have c0 := later hB2 hlt1 c0; have c1 := later hB2 hlt1 c1; have hlt2 := Nat.lt_of_lt_of_le hlt1 hB2.size; have HT2 := HT.out.later (Below.next (head hB1) hB2); clear FS)
    | (go_at_call 16; refine (FC.out _).mono ?_; rintro e w1 ⟨rfl, hB1⟩; obtain ⟨hlt1, c0, c1⟩ := boxed hB1; clear FC))
  go_ret2
  exact ⟨rfl, Below.next (Below.next (head hB1) hB2) ((((((((hB4).trans hB5).trans hB6).trans hB7).trans hB8).trans hB9).trans hB10).trans hB11)⟩
theorem prE (k s c : Int) (w : World) (hc : (c != 0) = true) (FC : Hid (∀ w, Calls Tryd.prog 16 #[.agg #[.int .u8 k, .int .i64 s]] w fun e w' => e = .returned (.int .i64 c) ∧ Below w.heap.size w w')) :
    Calls Tryd.prog 10 #[val k s] w fun e w' => e = .returned (.tuple #[.string (str []), .int .i64 c]) ∧ Below w.heap.size w w' := by
  unfold val
  go_enter Tryd.func10, Tryd.ntmps10
  go_wp2_with (first | (go_at_call 16; refine (FC.out _).mono ?_; rintro e w1 ⟨rfl, hB1⟩))
  go_ret2
  exact ⟨rfl, head hB1⟩
end Go.Proofs.YtbjiiejgepgdeaaDoor.Ma

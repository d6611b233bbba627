/- The walks through moment's lay and errandref11's wide. -/
import Derived.Test.YtbjiiejgepgdeaaDoorMd
namespace Go.Proofs.YtbjiiejgepgdeaaDoor.Ma
open Go.RowKit Mo Ut Cw
theorem str_add (a b : List UInt8) : str a ++ str b = str (a ++ b) := by
  apply (ByteArray.ext_iff).2
  simp [str]
theorem wid_step {wd j : Nat} {n m : Int} {T : List UInt8} (h : wid wd n = wid (j + 1) m ++ T) : wid wd n = wid j (m / 10) ++ (UInt8.ofNat (48 + m % 10).toNat :: T) := by
  rw [h]; simp [wid]
theorem byte_eq (m : Int) : ((UInt8.ofNat (48 + m % 10).toNat).toNat : Int) = 48 + m % 10 := by
  have : (48 + m % 10).toNat < 256 := by omega
  simp; omega
theorem conv1 (m : Int) (W : World) : (convert 62 9 (.slice (some ⟨W.heap.size, 0, none⟩) 1 1)).run Tryd.prog (W.alloc (.cells #[.int .u8 (48 + m % 10)] 5)) = .ok (.string (str [UInt8.ofNat (48 + m % 10).toNat])) (W.alloc (.cells #[.int .u8 (48 + m % 10)] 5)) :=
  run_convert_bytes_back _ _ _ 5 ⟨W.heap.size, 0, none⟩ 1 [UInt8.ofNat (48 + m % 10).toNat] Tryd.underlying62 Tryd.underlying5 Tryd.underlying9 (fun j hj => by
    have hj0 : j = 0 := by simpa using hj
    subst hj0
    rw [Addr.add_lit]
    refine (World.cell?_alloc_mark W #[.int .u8 (48 + m % 10)] 5 (0, 0) 0).trans ?_
    show some (Value.int .u8 (48 + m % 10)) = some (Value.int .u8 ((UInt8.ofNat (48 + m % 10).toNat).toNat : Int))
    rw [byte_eq])
attribute [local go_sem] conv1
set_option maxHeartbeats 1000000 in
theorem wide_any (n : Int) (wd : Nat) (h0 : 0 ≤ n) (h1 : n ≤ 9999) (hw : wd ≤ 4) (w : World) : Calls Tryd.prog 29 #[.int .i64 n, .int .i64 wd] w fun e w' => e = .returned (.string (str (wid wd n))) ∧ Below w.heap.size w w' := by
  go_enter Tryd.func29, Tryd.ntmps29
  go_wp2
  go_loopw [0, 5, 6] (fun n' s i wr => ∃ (j : Nat) (m : Int) (T : List UInt8), j ≤ wd ∧ 0 ≤ m ∧ m ≤ 9999 ∧ T.length = j ∧ i = .int .i64 j ∧ n' = .int .i64 m ∧ s = .string (str T) ∧ Hid (wid wd n = wid (wd - j) m ++ T) ∧ Below w.heap.size w wr) (fun _ _ i _ => wd - (intOf i).toNat)
  case atStart => exact ⟨0, n, [], by omega, h0, h1, rfl, rfl, rfl, rfl, Lib.hid (by simp), Below.refl _ _⟩
  case round =>
    obtain ⟨j, m, T, hj, m0, m1, hT, rfl, rfl, rfl, hs, hB⟩ := hrel
    by_cases hk : j < wd
    · have hsz := str_size T
      have hs1 := str_size [UInt8.ofNat (48 + m % 10).toNat]
      have hjw : (j : Int) < (wd : Int) := by omega
      have hT2 : (str T).size ≤ 4 := by omega
      have hs2 : (str [UInt8.ofNat (48 + m % 10).toNat]).size = 1 := hs1
      have hk2 : wd - j = (wd - (j + 1)) + 1 := by omega
      rw [hk2] at hs
      have hn := Lib.hid (wid_step hs.out)
      have HT := Lib.hid hT
      clear hT hk2 hs hsz hs1
      go_wp2
      go_roundw
      case rel => exact ⟨j + 1, m / 10, _, by omega, by omega, by omega, by rw [List.length_cons, HT.out], by go_num, by go_num, by rw [str_add]; rfl, hn, by (repeat' (first | assumption | exact Below.refl _ _ | apply Below.next_alloc | apply Below.drew | (apply Below.next; rotate_left; assumption)))⟩
      case measure => simp [intOf]; omega
    · have hjw : j = wd := by omega
      subst hjw
      have hr := Lib.hid (show wid j n = T by rw [hs.out]; simp [wid])
      go_wp2
      go_ret
      exact ⟨ret_v (by rw [hr.out]; rfl), hB⟩
/-- bytes as cells -/
def u8s (l : List UInt8) : List Value := l.map fun b => Value.int .u8 b.toNat
theorem u8s_app (a b : List UInt8) : u8s (a ++ b) = u8s a ++ u8s b := List.map_append
theorem u8s_len (l : List UInt8) : (u8s l).length = l.length := List.length_map ..
theorem u8s_set (l : List UInt8) (i : Nat) (m : Int) : (u8s l).set i (.int .u8 (48 + m % 10)) = u8s (l.set i (UInt8.ofNat (48 + m % 10).toNat)) := by
  unfold u8s
  rw [List.map_set, byte_eq]
theorem set_mid (L T : List UInt8) (j : Nat) (x : UInt8) : (L ++ List.replicate (j + 1) 48 ++ T).set (L.length + j) x = L ++ List.replicate j 48 ++ (x :: T) := by
  rw [List.append_assoc, List.set_append_right _ _ (by omega)]
  have e : L.length + j - L.length = j := by omega
  rw [e, List.replicate_succ', List.append_assoc, List.set_append_right _ _ (by simp), List.append_assoc]
  simp
theorem zeros_cut (wd : Nat) (h : wd ≤ 4) : Lib.strCells ((⟨#[48, 48, 48, 48]⟩ : ByteArray).extract 0 wd) = u8s (List.replicate wd 48) := by
  have hw : wd = 0 ∨ wd = 1 ∨ wd = 2 ∨ wd = 3 ∨ wd = 4 := by omega
  rcases hw with rfl | rfl | rfl | rfl | rfl <;> rfl
theorem zeros_size (wd : Nat) (h : wd ≤ 4) : ((⟨#[48, 48, 48, 48]⟩ : ByteArray).extract 0 wd).size = wd := by
  have hw : wd = 0 ∨ wd = 1 ∨ wd = 2 ∨ wd = 3 ∨ wd = 4 := by omega
  rcases hw with rfl | rfl | rfl | rfl | rfl <;> rfl
theorem info8 : (Tryd.prog.info? 5).map (fun i => (i.zero, i.size, i.bytes)) = some (some (.int .u8 0), 1, 1) := by kernel_rfl
/-- a row of bytes that the call owns -/
def Row (base : Nat) (w : World) (v : Value) (l : List UInt8) : Prop := w.ownsRow base 5 1 v l.length (u8s l)
theorem Row.cases {base : Nat} {w : World} {v : Value} {l : List UInt8} (h : Row base w v l) : v = .slice none 0 0 ∨ ∃ g cap, v = .slice (some ⟨g, 0, none⟩) l.length cap ∧ base ≤ g := by
  rcases h.2 with ⟨rfl, _⟩ | ⟨g, cap, cur, hv, hb, _⟩
  · exact .inl rfl
  · exact .inr ⟨g, cap, hv, hb⟩
set_option maxHeartbeats 1000000 in
theorem lay_any (base : Nat) (v : Value) (L : List UInt8) (n : Int) (wd : Nat) (h0 : 0 ≤ n) (h1 : n ≤ 9999) (hw0 : 1 ≤ wd) (hw : wd ≤ 4) (hL : L.length ≤ 100) (w : World) (hown : Row base w v L) (hbase : base ≤ w.heap.size) :
    Calls Tryd.prog 27 #[v, .int .i64 n, .int .i64 wd] w fun e w' => ∃ v', e = .returned v' ∧ Row base w' v' (L ++ wid wd n) ∧ Below base w w' := by
  obtain ⟨i0, hi, hz0, hz1, hz2⟩ := info_parts info8
  have hzc := Lib.hid (zeros_cut wd hw)
  have hzs := Lib.hid (zeros_size wd hw)
  have hwi : (wd : Int) ≤ 4 := by omega
  unfold Row at hown
  rcases hown.2 with ⟨rfl, hn0⟩ | ⟨g, cap, cur, rfl, hbg, hg, hnc, hcm, hcs, htake⟩
  · obtain rfl : L = [] := List.length_eq_zero_iff.1 hn0
    rw [List.nil_append]
    go_enter Tryd.func27, Tryd.ntmps27
    go_wp2_with (first | (at_builtin; refine wpList_append_str _ rfl _ _ _ _ rfl base 5 i0 Tryd.underlying62 Tryd.underlying9 hi hz0 hz1 hz2 (.slice none 0 0) _ _ rfl hown _ rfl (by rw [hzs.out]; simp [maxLen]; omega) (by rw [hzs.out]; simp; omega) hbase ?_; intro v1 w1 hown1 hg1; rw [hzs.out, List.length_nil, Nat.zero_add] at hown1; obtain ⟨g1, cap1, rfl, hb1, hlt1, hnc1, hcm1, -⟩ := ownsRow_pos hown1 (by omega)))
    have hB1 : Below base w w1 := (Below.refl base w).grown hg1 hbase (by intro k hk; cases hk)
    go_loopw [1, 8] (fun n' i wr => ∃ (j : Nat) (m x : Int) (T : List UInt8), j ≤ wd ∧ 0 ≤ m ∧ m ≤ 9999 ∧ i = .int .i64 x ∧ x + 1 = j ∧ n' = .int .i64 m ∧ Hid (wid wd n = wid j m ++ T) ∧ Hid (T.length = wd - j) ∧ wr.ownsRow base 5 1 (.slice (some ⟨g1, 0, none⟩) wd cap1) wd (u8s (List.replicate j 48 ++ T)) ∧ Below base w wr) (fun _ i _ => (intOf i + 1).toNat)
    case atStart => exact ⟨wd, n, _, [], by omega, h0, h1, rfl, by omega, rfl, Lib.hid (by simp), Lib.hid (by simp), ownsRow_cast hown1 rfl rfl (by rw [hzc.out, List.append_nil]; rfl), hB1⟩
    case round =>
      obtain ⟨j, m, x, T, hj, m0, m1, rfl, hx, rfl, hs, hT, hr, hB⟩ := hrel
      cases j with
      | zero =>
        go_wp2
        go_ret
        have e : wid wd n = List.replicate 0 48 ++ T := by rw [hs.out]; simp [wid]
        refine ⟨_, rfl, ?_, hB⟩
        unfold Row
        exact ownsRow_cast hr rfl (by rw [wid_len]) (by rw [e])
      | succ j =>
        obtain rfl : x = (j : Int) := by omega
        have hc : wr.cell? ⟨g1, j, none⟩ = some (.int .u8 48) := by
          rw [hr.cellAt j (by omega)]
          unfold u8s
          rw [List.getElem?_map, List.getElem?_append_left (by simp)]
          simp
        have hf := hr.frozenAt j
        have hst := Lib.hid ((hr.stored j (.int .u8 (48 + m % 10))).1)
        have hBs := Lib.hid (hB.setCell (p := ⟨g1, j, none⟩) hb1 (.int .u8 (48 + m % 10)))
        have hn := Lib.hid (wid_step hs.out)
        have i1 : (0 : Int) ≤ (j : Int) := by omega
        have i2 : (j : Int) < (wd : Int) := by omega
        clear hr hB hs
        go_wp2
        go_roundw
        case rel => exact ⟨j, m / 10, _, _, by omega, by omega, by omega, rfl, by omega, rfl, hn, Lib.hid (by have := hT.out; rw [List.length_cons]; omega), by have := hst.out; rw [u8s_set] at this; have e := set_mid [] T j (UInt8.ofNat (48 + m % 10).toNat); simp only [List.nil_append, List.length_nil, Nat.zero_add] at e; rwa [e] at this, hBs.out⟩
        case measure => simp [intOf]
  · clear hg hcs htake
    go_enter Tryd.func27, Tryd.ntmps27
    go_wp2_with (first | (at_builtin; refine wpList_append_str _ rfl _ _ _ _ rfl base 5 i0 Tryd.underlying62 Tryd.underlying9 hi hz0 hz1 hz2 (.slice (some ⟨g, 0, none⟩) L.length cap) _ _ rfl hown _ rfl (by rw [hzs.out]; unfold maxLen; omega) (by rw [hzs.out]; omega) hbase ?_; intro v1 w1 hown1 hg1; rw [hzs.out] at hown1; obtain ⟨g1, cap1, rfl, hb1, hlt1, hnc1, hcm1, -⟩ := ownsRow_pos hown1 (by omega)))
    have hB1 : Below base w w1 := (Below.refl base w).grown hg1 hbase (by intro k hk; cases hk; exact hbg)
    go_loopw [1, 8] (fun n' i wr => ∃ (j : Nat) (m x : Int) (T : List UInt8), j ≤ wd ∧ 0 ≤ m ∧ m ≤ 9999 ∧ i = .int .i64 x ∧ x + 1 = L.length + j ∧ n' = .int .i64 m ∧ Hid (wid wd n = wid j m ++ T) ∧ Hid (T.length = wd - j) ∧ wr.ownsRow base 5 1 (.slice (some ⟨g1, 0, none⟩) (L.length + wd) cap1) (L.length + wd) (u8s (L ++ List.replicate j 48 ++ T)) ∧ Below base w wr) (fun _ i _ => (intOf i + 1).toNat)
    case atStart => exact ⟨wd, n, _, [], by omega, h0, h1, rfl, by omega, rfl, Lib.hid (by simp), Lib.hid (by simp), ownsRow_cast hown1 rfl rfl (by rw [hzc.out, List.append_nil, u8s_app]), hB1⟩
    case round =>
      obtain ⟨j, m, x, T, hj, m0, m1, rfl, hx, rfl, hs, hT, hr, hB⟩ := hrel
      cases j with
      | zero =>
        go_wp2
        go_ret
        have e : L ++ wid wd n = L ++ List.replicate 0 48 ++ T := by rw [hs.out]; simp [wid]
        refine ⟨_, rfl, ?_, hB⟩
        unfold Row
        exact ownsRow_cast hr rfl (by rw [List.length_append, wid_len]) (by rw [e])
      | succ j =>
        obtain rfl : x = ((L.length + j : Nat) : Int) := by omega
        have hc : wr.cell? ⟨g1, L.length + j, none⟩ = some (.int .u8 48) := by
          rw [hr.cellAt (L.length + j) (by omega)]
          unfold u8s
          rw [List.getElem?_map, List.append_assoc, List.getElem?_append_right (by omega), List.getElem?_append_left (by simp)]
          simp
        have hf := hr.frozenAt (L.length + j)
        have hst := Lib.hid ((hr.stored (L.length + j) (.int .u8 (48 + m % 10))).1)
        have hBs := Lib.hid (hB.setCell (p := ⟨g1, L.length + j, none⟩) hb1 (.int .u8 (48 + m % 10)))
        have hn := Lib.hid (wid_step hs.out)
        have i1 : (0 : Int) ≤ ((L.length + j : Nat) : Int) := by omega
        have i2 : ((L.length + j : Nat) : Int) < ((L.length + wd : Nat) : Int) := by omega
        clear hr hB hs
        go_wp2
        go_roundw
        case rel => exact ⟨j, m / 10, _, _, by omega, by omega, by omega, rfl, by omega, rfl, hn, Lib.hid (by have := hT.out; rw [List.length_cons]; omega), by have := hst.out; rwa [u8s_set, set_mid] at this, hBs.out⟩
        case measure => simp [intOf]; omega
end Go.Proofs.YtbjiiejgepgdeaaDoor.Ma

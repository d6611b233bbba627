/- The walks through moment's form and lay. -/
import Derived.Test.YtbjiiejgepgdeaaDoorMc
import Derived.Test.YtbjiiejgepgdeaaDoorCwb
import Derived.Laws.DeepStrings4
namespace Go.Proofs.YtbjiiejgepgdeaaDoor.Ma
open Go.RowKit Mo Ut Cw
/-- the text of a list of bytes -/
def str (l : List UInt8) : ByteArray := ⟨l.toArray⟩
theorem bts_str (l : List UInt8) : bts (str l) = l := rfl
theorem str_bts (s : ByteArray) : str (bts s) = s := rfl
theorem str_size (l : List UInt8) : (str l).size = l.length := by unfold str; exact List.size_toArray
theorem ext_str (s : ByteArray) (a b : Nat) : s.extract a b = str (((bts s).take b).drop a) := by
  have h : (s.extract a b).data = (str (((bts s).take b).drop a)).data := by
    apply Array.ext'
    simp [str, bts, List.extract_eq_take_drop, List.drop_take]
  cases hh : s.extract a b
  rw [hh] at h
  exact congrArg ByteArray.mk h
def formV (l : List UInt8) : Value :=
  match form l with
  | none => .tuple #[.int .u8 0, .string (str []), .string (str []), .bool false]
  | some (k, a, b) => .tuple #[.int .u8 k, .string (str a), .string (str b), .bool true]
theorem get_eq (s : ByteArray) (j : Nat) (h : j < s.size) (c : UInt8) : (bts s)[j]? = some c ↔ ((s[j]'h).toNat : Int) = (c.toNat : Int) := by
  rw [List.getElem?_eq_getElem (by rw [bts_len]; exact h), bts_get s j h, Option.some_inj]
  constructor
  · intro e; rw [e]
  · intro e; exact UInt8.toNat_inj.1 (by omega)
theorem ret_v {a b : Value} (h : a = b) : Ending.returned a = .returned b := by rw [h]
set_option maxHeartbeats 1000000 in
theorem form_any (s : ByteArray) (hn : s.size ≤ 1000000) (w : World) : Calls Tryd.prog 20 #[.string s] w fun e w' => e = .returned (formV (bts s)) ∧ Below w.heap.size w w' := by
  have hl := bts_len s
  by_cases h8 : s.size = 8
  · have hr := Lib.hid (show formV (bts s) = .tuple #[.int .u8 1, .string s, .string (str [48, 48, 48, 48, 48, 48]), .bool true] by
      unfold formV form; rw [if_pos (by omega)]; rfl)
    have hq : ((s.size : Int) == 8) = true := by simp [h8]
    clear hl
    go_enter Tryd.func20, Tryd.ntmps20
    go_wp2
    refine bodyPost_ret (results_tmp4 rfl _ _ _) rfl ?_
    exact ⟨ret_v hr.out.symm, by (repeat' (first | assumption | exact Below.refl _ _ | apply Below.next_alloc | apply Below.drew | (apply Below.next; rotate_left; assumption)))⟩
  · have hq : ((s.size : Int) == 8) = false := by simp; omega
    have hn8 : ¬ (bts s).length = 8 := by omega
    by_cases h15 : s.size = 15
    · have hq2 : ((s.size : Int) == 15) = true := by simp [h15]
      have hq3 : ((s.size : Int) == 16) = false := by simp; omega
      have hi : 8 < s.size := by omega
      have hg := get_eq s 8 hi 84
      have j8 : (8 : Int) < s.size := by omega
      have j9 : (9 : Int) ≤ s.size := by omega
      by_cases hT : (bts s)[8]? = some 84
      · have hr := Lib.hid (show formV (bts s) = .tuple #[.int .u8 2, .string (s.extract 0 8), .string (s.extract 9 s.size), .bool true] by
          rw [ext_str, ext_str, ← bts_len, List.take_length, List.drop_zero]
          unfold formV form; rw [if_neg hn8, if_pos ⟨by omega, hT⟩])
        have hq4 : (((s[8]'hi).toNat : Int) == 84) = true := by rw [beq_iff_eq]; exact hg.1 hT
        clear hl hn8 hg hT h15
        go_enter Tryd.func20, Tryd.ntmps20
        go_wp2
        go_quiet (fail)
        go_wp2
        refine bodyPost_ret (results_tmp4 rfl _ _ _) rfl ?_
        exact ⟨ret_v hr.out.symm, Base.below_drewN (by (repeat' (first | assumption | exact Below.refl _ _ | apply Below.next_alloc | apply Below.drew | (apply Below.next; rotate_left; assumption)))) _⟩
      · have hr := Lib.hid (show formV (bts s) = .tuple #[.int .u8 0, .string (str []), .string (str []), .bool false] by
          unfold formV form; rw [if_neg hn8, if_neg (fun h => hT h.2), if_neg (fun h => by omega)])
        have hq4 : (((s[8]'hi).toNat : Int) == 84) = false := by rw [beq_eq_false_iff_ne]; exact fun h => hT (hg.2 h)
        clear hl hn8 hg hT h15
        go_enter Tryd.func20, Tryd.ntmps20
        go_wp2
        refine bodyPost_ret (results_tmp4 rfl _ _ _) rfl ?_
        exact ⟨ret_v hr.out.symm, by (repeat' (first | assumption | exact Below.refl _ _ | apply Below.next_alloc | apply Below.drew | (apply Below.next; rotate_left; assumption)))⟩
    · have hq2 : ((s.size : Int) == 15) = false := by simp; omega
      by_cases h16 : s.size = 16
      · have hq3 : ((s.size : Int) == 16) = true := by simp [h16]
        have hi : 8 < s.size := by omega
        have hi2 : 15 < s.size := by omega
        have hg := get_eq s 8 hi 84
        have hg2 := get_eq s 15 hi2 90
        have j8 : (8 : Int) < s.size := by omega
        have j9 : (9 : Int) ≤ s.size := by omega
        have j15 : (15 : Int) < s.size := by omega
        have j16 : (15 : Int) ≤ s.size := by omega
        by_cases hT : (bts s)[8]? = some 84
        · have hq4 : (((s[8]'hi).toNat : Int) == 84) = true := by rw [beq_iff_eq]; exact hg.1 hT
          by_cases hZ : (bts s)[15]? = some 90
          · have hr := Lib.hid (show formV (bts s) = .tuple #[.int .u8 3, .string (s.extract 0 8), .string (s.extract 9 15), .bool true] by
              rw [ext_str, ext_str, List.drop_zero]
              unfold formV form; rw [if_neg hn8, if_neg (fun h => by omega), if_pos ⟨by omega, hT, hZ⟩])
            have hq5 : (((s[15]'hi2).toNat : Int) == 90) = true := by rw [beq_iff_eq]; exact hg2.1 hZ
            clear hl hn8 hg hT hg2 hZ h16
            go_enter Tryd.func20, Tryd.ntmps20
            go_wp2
            go_quiet (fail)
            go_wp2
            refine bodyPost_ret (results_tmp4 rfl _ _ _) rfl ?_
            exact ⟨ret_v hr.out.symm, Base.below_drewN (by (repeat' (first | assumption | exact Below.refl _ _ | apply Below.next_alloc | apply Below.drew | (apply Below.next; rotate_left; assumption)))) _⟩
          · have hr := Lib.hid (show formV (bts s) = .tuple #[.int .u8 0, .string (str []), .string (str []), .bool false] by
              unfold formV form; rw [if_neg hn8, if_neg (fun h => by omega), if_neg (fun h => hZ h.2.2)])
            have hq5 : (((s[15]'hi2).toNat : Int) == 90) = false := by rw [beq_eq_false_iff_ne]; exact fun h => hZ (hg2.2 h)
            clear hl hn8 hg hT hg2 hZ h16
            go_enter Tryd.func20, Tryd.ntmps20
            go_wp2
            refine bodyPost_ret (results_tmp4 rfl _ _ _) rfl ?_
            exact ⟨ret_v hr.out.symm, by (repeat' (first | assumption | exact Below.refl _ _ | apply Below.next_alloc | apply Below.drew | (apply Below.next; rotate_left; assumption)))⟩
        · have hr := Lib.hid (show formV (bts s) = .tuple #[.int .u8 0, .string (str []), .string (str []), .bool false] by
            unfold formV form; rw [if_neg hn8, if_neg (fun h => hT h.2), if_neg (fun h => hT h.2.1)])
          have hq4 : (((s[8]'hi).toNat : Int) == 84) = false := by rw [beq_eq_false_iff_ne]; exact fun h => hT (hg.2 h)
          clear hl hn8 hg hT hg2 h16
          go_enter Tryd.func20, Tryd.ntmps20
          go_wp2
          refine bodyPost_ret (results_tmp4 rfl _ _ _) rfl ?_
          exact ⟨ret_v hr.out.symm, by (repeat' (first | assumption | exact Below.refl _ _ | apply Below.next_alloc | apply Below.drew | (apply Below.next; rotate_left; assumption)))⟩
      · have hq3 : ((s.size : Int) == 16) = false := by simp; omega
        have hr := Lib.hid (show formV (bts s) = .tuple #[.int .u8 0, .string (str []), .string (str []), .bool false] by
          unfold formV form; rw [if_neg hn8, if_neg (fun h => by omega), if_neg (fun h => by omega)])
        clear hl hn8
        go_enter Tryd.func20, Tryd.ntmps20
        go_wp2
        refine bodyPost_ret (results_tmp4 rfl _ _ _) rfl ?_
        exact ⟨ret_v hr.out.symm, by (repeat' (first | assumption | exact Below.refl _ _ | apply Below.next_alloc | apply Below.drew | (apply Below.next; rotate_left; assumption)))⟩
end Go.Proofs.YtbjiiejgepgdeaaDoor.Ma

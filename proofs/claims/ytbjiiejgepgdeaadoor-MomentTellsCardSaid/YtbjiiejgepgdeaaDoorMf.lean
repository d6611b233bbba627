/- The walk through moment's fields. -/
import Derived.Test.YtbjiiejgepgdeaaDoorMe
import Derived.Deep.AppendLies
namespace Go.Proofs.YtbjiiejgepgdeaaDoor.Ma
open Go.RowKit Mo Ut Cw
theorem infoI : (Tryd.prog.info? 3).map (fun i => (i.zero, i.size, i.bytes)) = some (some (.int .i64 0), 1, 8) := by kernel_rfl
/-- numbers as cells -/
def ints (l : List Int) : List Value := l.map (Value.int .i64)
theorem ints_app (a b : List Int) : ints (a ++ b) = ints a ++ ints b := List.map_append
/-- what fields makes of a text: the numbers, in a row of its own, or none -/
def Got (base : Nat) (r : Option (List Int)) (e : Ending) (w' : World) : Prop :=
  match r with
  | some ns => ∃ v, e = .returned (.tuple #[v, .bool true]) ∧ w'.ownsRow base 3 1 v ns.length (ints ns)
  | none => ∃ v, e = .returned (.tuple #[v, .bool false])
theorem dropC {ws : List Nat} {i x : Nat} (h : ws[i]? = some x) : ws.drop i = x :: ws.drop (i + 1) := by
  obtain ⟨hi, hx⟩ := List.getElem?_eq_some_iff.1 h
  rw [List.drop_eq_getElem_cons hi, hx]
theorem pow_small {k : Nat} {m : Int} (hk : k ≤ 3) (h : m < 10 ^ k) : m ≤ 999 := by
  have hc : k = 0 ∨ k = 1 ∨ k = 2 ∨ k = 3 := by omega
  rcases hc with rfl | rfl | rfl | rfl <;> simp only [Int.reducePow] at h <;> omega
theorem pow_step {a b : Nat} {m : Int} {d : UInt8} (hab : a = b + 1) (h : m < 10 ^ b) (hd : dig d = true) : m * 10 + dv d < 10 ^ a := by
  have := dig_bd hd
  have hp : (10 : Int) ^ (b + 1) = 10 ^ b * 10 := Int.pow_succ ..
  rw [hab, hp]; omega
theorem ext_cons (d : UInt8) (R : List UInt8) : (str (d :: R)).extract 1 (str (d :: R)).size = str R := by
  rw [ext_str, bts_str, str_size, List.take_length]; rfl
set_option maxHeartbeats 2000000 in
theorem fields_any (L : List UInt8) (ws : List Nat) (hw4 : ∀ x ∈ ws, x ≤ 4) (hn : ws.length ≤ 100) (b c : Nat) (w : World) (hb : b < w.heap.size) (hcell : ∀ i (h : i < ws.length), w.cell? ⟨b, i, none⟩ = some (.int .i64 (ws[i] : Nat))) :
    Calls Tryd.prog 21 #[.string (str L), .slice (some ⟨b, 0, none⟩) ws.length c] w fun e w' => Got w.heap.size (fields ws L) e w' ∧ Below w.heap.size w w' := by
  obtain ⟨i0, hi, hz0, hz1, hz2⟩ := info_parts infoI
  have HC := Lib.hid hcell
  clear hcell
  go_enter Tryd.func21, Tryd.ntmps21
  go_wp2
  go_loopw [0, 6, 12] (fun s out i wr => ∃ (k : Nat) (R : List UInt8) (ns : List Int), k ≤ ws.length ∧ s = .string (str R) ∧ i = .int .i64 k ∧ Hid (ns.length = k) ∧ Hid (Mo.fields ws L = (Mo.fields (ws.drop k) R).map (ns ++ ·)) ∧ wr.ownsRow w.heap.size 3 1 out k (ints ns) ∧ Below w.heap.size w wr) (fun _ _ i _ => ws.length - (intOf i).toNat)
  case atStart => exact ⟨0, L, [], by omega, rfl, rfl, Lib.hid rfl, Lib.hid (by simp), World.ownsRow_nil _ _ _ _, Below.refl _ _⟩
  case round =>
    obtain ⟨k, R, ns, hk, rfl, rfl, hln, hF, hown, hB⟩ := hrel
    by_cases hk2 : k < ws.length
    · have c1 := (hB.cell (p := ⟨b, k, none⟩) hb).trans (HC.out k hk2)
      have hx4 := hw4 _ (List.getElem_mem hk2)
      have hF2 := Lib.hid (show Mo.fields ws L = rest ns ws[k] 0 (ws.drop (k + 1)) R by rw [hF.out, List.drop_eq_getElem_cons hk2, rest_start])
      have j1 : (k : Int) < (ws.length : Int) := by omega
      generalize hwk : ws[k] = W at *
      have hwk := Lib.hid hwk
      clear hF
      go_wp2
      go_loopw [0, 8, 9] (fun s wv n wr => ∃ (j : Nat) (m : Int) (R : List UInt8), j ≤ W ∧ wv = .int .i64 j ∧ n = .int .i64 m ∧ 0 ≤ m ∧ Hid (m < 10 ^ (W - j)) ∧ s = .string (str R) ∧ Hid (Mo.fields ws L = rest ns j m (ws.drop (k + 1)) R) ∧ wr.ownsRow w.heap.size 3 1 u6 k (ints ns) ∧ Below w.heap.size w wr) (fun _ wv _ _ => (intOf wv).toNat)
      case atStart => exact ⟨W, 0, R, by omega, rfl, rfl, by omega, Lib.hid (by simp), rfl, hF2, hown, hB⟩
      case round =>
        obtain ⟨j, m, R, hj, rfl, rfl, m0, m1, rfl, hF, hown, hB⟩ := hrel
        cases j with
        | zero =>
          have HF := Lib.hid (show Mo.fields ws L = (Mo.fields (ws.drop (k + 1)) R).map ((ns ++ [m]) ++ ·) by rw [hF.out, rest_zero])
          have HN := Lib.hid (show (ns ++ [m]).length = k + 1 by rw [List.length_append, hln.out]; rfl)
          clear hF
          have hb1 := Lib.hid (show k + 1 ≤ maxLen by unfold maxLen; omega)
          have hb2 := Lib.hid (show (k + 1) * 8 ≤ 140737488355328 by omega)
          go_wp2_with (at_builtin; go_loud (refine wpList_append_own _ rfl _ _ _ rfl w.heap.size 3 i0 _ 1 8 Tryd.underlying53 hi hz0 hz1 hz2 rfl (by decide) _ _ _ rfl (hown.alloc _) ⟨wr.heap.size, 0, none⟩ 1 1 [.int .i64 m] rfl rfl (World.news_of_block (cs := #[.int .i64 m]) (t := 3) (fr := (0, 0)) (heap_alloc_new wr _)) (by simp [Value.oneCell']) hb1.out hb2.out (by simp; have := hB.size; omega) ?_); intro v1 w1 hown1 hg1 _; have hB1 := (hB.alloc hB.size _).grown hg1 (by simp; have := hB.size; omega) (fun k hk => (hown.lt k hk).1))
          go_roundw
          case rel => exact ⟨k + 1, R, ns ++ [m], by omega, rfl, by go_num, HN, HF, ownsRow_cast hown1 rfl rfl (by rw [ints_app]; rfl), hB1⟩
          case measure => simp [intOf]; omega
        | succ j =>
          cases R with
          | nil =>
            have HF := Lib.hid (hF.out.trans (rest_nil _ _ _ _))
            have hnil : (str []).toList = [] := by rw [ByteArray.toList_eq]; rfl
            go_wp2
            go_ret2
            refine ⟨?_, hB⟩
            rw [HF.out]
            exact ⟨_, rfl⟩
          | cons d R =>
            have hsz := str_size (d :: R)
            rw [List.length_cons] at hsz
            have s0 : 0 < (str (d :: R)).size := by omega
            have s1 : (0 : Int) < (str (d :: R)).size := by omega
            have s2 : (1 : Int) ≤ (str (d :: R)).size := by omega
            have hgc : (str (d :: R))[0] = d := rfl
            have hne : ((str (d :: R)).toList == []) = false := by rw [ByteArray.toList_eq]; rfl
            clear hsz
            cases hd : dig d
            · have HF := Lib.hid (hF.out.trans (rest_bad _ _ _ _ _ hd))
              rcases dig_false hd with hlo | hhi
              · go_wp2
                go_ret2
                refine ⟨?_, hB⟩
                rw [HF.out]
                exact ⟨_, rfl⟩
              · go_wp2
                go_ret2
                refine ⟨?_, hB⟩
                rw [HF.out]
                exact ⟨_, rfl⟩
            · have hb := dig_true hd
              have HF := Lib.hid (hF.out.trans (rest_dig _ _ _ _ _ hd))
              have m3 := pow_small (show W - (j + 1) ≤ 3 by omega) m1.out
              have m2 := Lib.hid (pow_step (show W - j = W - (j + 1) + 1 by omega) m1.out hd)
              have hx := Lib.hid (ext_cons d R)
              have b1 := hb.1
              have b2 := hb.2
              clear hb hd
              go_wp2
              go_quiet (fail)
              go_wp2
              go_roundw
              case rel => exact ⟨j, m * 10 + dv d, R, by omega, by go_num, by unfold dv; go_num, by unfold dv; omega, m2, by rw [hx.out], HF, hown, Base.below_drewN hB _⟩
              case measure => simp [intOf]
    · have hd : ws.drop k = [] := List.drop_eq_nil_iff.2 (by omega)
      rw [hd] at hF
      clear hd
      cases R with
      | nil =>
        have HF := Lib.hid (show Mo.fields ws L = some ns by rw [hF.out]; simp [Mo.fields])
        have hnil : (str []).toList = [] := by rw [ByteArray.toList_eq]; rfl
        go_wp2
        go_ret2
        refine ⟨?_, hB⟩
        rw [HF.out]
        refine ⟨_, ?_, ownsRow_cast hown rfl hln.out.symm rfl⟩
        simp
      | cons d R =>
        have HF := Lib.hid (show Mo.fields ws L = none by rw [hF.out]; simp [Mo.fields])
        have hne : ((str (d :: R)).toList == []) = false := by rw [ByteArray.toList_eq]; rfl
        go_wp2
        go_ret2
        refine ⟨?_, hB⟩
        rw [HF.out]
        exact ⟨_, rfl⟩
end Go.Proofs.YtbjiiejgepgdeaaDoor.Ma

/- The walks through errandref30 that only read. -/
import Derived.Test.YthjkhdegjhapcaaSf
namespace Go.Proofs.Ythjkhdegjhapcaa.Sa
open Go.RowKit Sp
set_option maxHeartbeats 1000000 in
theorem rSorted_any {v : Value} {es : List Ent} {w : World} (hE : Ents w v es) (hn : es.length ≤ 1000000) :
    Calls Try.prog 16 #[v] w fun e w' => e = .returned (.bool (sortedB es)) ∧ Below w.heap.size w w' := by
  rcases hE with ⟨rfl, a, cap, rfl, _⟩ | ⟨h0, b, o, cap, rfl, hlt, hcap, hcell⟩
  · go_enter Try.func16, Try.ntmps16
    go_wp2
    go_rounds 1
    go_ret
    exact ⟨rfl, Below.refl _ _⟩
  · have HC := Lib.hid hcell
    clear hcell
    go_enter Try.func16, Try.ntmps16
    go_wp2
    go_loopw [3] (fun i wr => ∃ k : Nat, 1 ≤ k ∧ k ≤ es.length ∧ i = .int .i64 k ∧ (∀ j (hj : j + 1 < es.length), j + 1 < k → lt es[j].1 es[j + 1].1 = true) ∧ Below w.heap.size w wr) (fun i _ => es.length - (intOf i).toNat)
    case atStart => exact ⟨1, by omega, by omega, rfl, fun j hj h => by omega, Below.refl _ _⟩
    case round =>
      obtain ⟨k, k0, k1, rfl, hr, hB⟩ := hrel
      have HR := Lib.hid hr
      clear hr
      by_cases hk : k < es.length
      · have c1 := (hB.cell (p := ⟨b, o + k * 2, none⟩) hlt).trans (HC.out k hk).1
        have c2 := (hB.cell (p := ⟨b, o + (k - 1) * 2, none⟩) hlt).trans (HC.out (k - 1) (by omega)).1
        have i2 : (k : Int) < (es.length : Int) := by omega
        have i3 : (0 : Int) ≤ (k : Int) := by omega
        have i4 : (0 : Int) ≤ (k : Int) - 1 := by omega
        have i5 : (k : Int) - 1 < (es.length : Int) := by omega
        have ek : k - 1 + 1 = k := by omega
        have EK := Lib.hid ek
        clear ek
        cases hl : Op.bytesLess es[k - 1].1.toList es[k].1.toList
        · have hs := Lib.hid (sortedB_false (es := es) (j := k - 1) (by omega) (by have := EK.out; simp only [this]; exact hl))
          have hle : (Op.bytesLess es[k].1.toList es[k - 1].1.toList || es[k].1.toList == es[k - 1].1.toList) = true := by
            cases h2 : Op.bytesLess es[k].1.toList es[k - 1].1.toList
            · rw [Bool.false_or, beq_iff_eq]; exact less_tri h2 hl
            · rfl
          have i6 : IntKind.i64.wrap ((k : Int) - 1) = (k : Int) - 1 := IntWalk.i64_in _ (by omega)
          have i7 : ((k : Int) - 1).toNat = k - 1 := by omega
          go_wp2
          go_quiet (fail)
          clear i6 i7
          go_wp2
          go_ret
          exact ⟨ret_b hs.out.symm, Base.below_drewN hB _⟩
        · have Hl := Lib.hid hl
          have h2 : Op.bytesLess es[k].1.toList es[k - 1].1.toList = false := lt_asymm (a := es[k - 1].1) (b := es[k].1) hl
          have h3 : (es[k].1.toList == es[k - 1].1.toList) = false := by
            rw [beq_eq_false_iff_ne]; intro h; rw [h, less_irrefl] at hl; cases hl
          have i6 : IntKind.i64.wrap ((k : Int) - 1) = (k : Int) - 1 := IntWalk.i64_in _ (by omega)
          have i7 : ((k : Int) - 1).toNat = k - 1 := by omega
          go_wp2
          go_quiet (fail)
          clear i6 i7
          go_wp2
          go_roundw
          case rel =>
            refine ⟨k + 1, by omega, by omega, by go_num, fun j hj h => ?_, Base.below_drewN hB _⟩
            by_cases hjk : j + 1 = k
            · have : j = k - 1 := by omega
              subst this
              have := EK.out
              simp only [this]
              exact Hl.out
            · exact HR.out j hj (by omega)
          case measure => simp [intOf]; omega
      · have hs := Lib.hid (sortedB_true (es := es) fun j hj => HR.out j hj (by omega))
        go_wp2
        go_ret
        exact ⟨ret_b hs.out.symm, hB⟩
set_option maxHeartbeats 1000000 in
theorem rFind_any {v : Value} {es : List Ent} (t : ByteArray) {w : World} (hE : Ents w v es) (hn : es.length ≤ 1000000) :
    Calls Try.prog 19 #[v, .string t] w fun e w' => e = .returned (.tuple #[.int .i64 (cnt es t), .bool (has es t)]) ∧ Below w.heap.size w w' := by
  rcases hE with ⟨rfl, a, cap, rfl, _⟩ | ⟨h0, b, o, cap, rfl, hlt, hcap, hcell⟩
  · go_enter Try.func19, Try.ntmps19
    go_wp2
    go_rounds 1
    go_ret2
    exact ⟨rfl, Below.refl _ _⟩
  · have HC := Lib.hid hcell
    clear hcell
    go_enter Try.func19, Try.ntmps19
    go_wp2
    go_loop [6, 7, 8] (fun n x i => ∃ k : Nat, k ≤ es.length ∧ i = .int .i64 k ∧ n = .int .i64 (cnt (es.take k) t) ∧ x = .bool (has (es.take k) t)) (fun _ _ i => es.length - (intOf i).toNat)
    case atStart => exact ⟨0, by omega, rfl, rfl, rfl⟩
    case round =>
      obtain ⟨k, k1, rfl, rfl, rfl⟩ := hrel
      by_cases hk : k < es.length
      · have c1 := (HC.out k hk).1
        have cl := cnt_le (es.take k) t
        rw [List.length_take, Nat.min_eq_left (by omega)] at cl
        cases hl : Op.bytesLess es[k].1.toList t.toList <;> cases he : (es[k].1.toList == t.toList)
        all_goals
          have hc := Lib.hid (show cnt (es.take (k + 1)) t = cnt (es.take k) t + (if Op.bytesLess es[k].1.toList t.toList = true then 1 else 0) by rw [take_snoc es k hk]; exact cnt_snoc _ _ _)
          have hh := Lib.hid (show has (es.take (k + 1)) t = (has (es.take k) t || (es[k].1.toList == t.toList)) by
            rw [take_snoc es k hk]; exact has_snoc _ _ _)
          go_wp2
          go_round
          case rel => exact ⟨k + 1, by omega, by go_num, by rw [hc.out, hl]; simp, by rw [hh.out, he]; simp⟩
          case measure => simp [intOf]; omega
      · have e : es.take k = es := List.take_of_length_le (by omega)
        have E := Lib.hid e
        clear e
        go_wp2
        go_ret2
        exact ⟨ret_ib (by rw [E.out]) (by rw [E.out]), Below.refl _ _⟩
/-- what the reference's Get tells -/
def rget (es : List Ent) (t : ByteArray) : Option Int := (es.find? fun e => decide (e.1 = t)).map (·.2)
theorem rget_yes {e : Ent} {es : List Ent} {t : ByteArray} (h : e.1 = t) : rget (e :: es) t = some e.2 := by
  unfold rget; rw [List.find?_cons_of_pos (by simpa using h)]; rfl
theorem rget_no {e : Ent} {es : List Ent} {t : ByteArray} (h : ¬ e.1 = t) : rget (e :: es) t = rget es t := by
  unfold rget; rw [List.find?_cons_of_neg (by simpa using h)]
set_option maxHeartbeats 1000000 in
theorem rGet_any {v : Value} {es : List Ent} (t : ByteArray) {w : World} (hE : Ents w v es) (hn : es.length ≤ 1000000) :
    Calls Try.prog 21 #[v, .string t] w fun e w' => e = .returned (.tuple #[.int .i64 ((rget es t).getD 0), .bool (rget es t).isSome]) ∧ Below w.heap.size w w' := by
  rcases hE with ⟨rfl, a, cap, rfl, _⟩ | ⟨h0, b, o, cap, rfl, hlt, hcap, hcell⟩
  · go_enter Try.func21, Try.ntmps21
    go_wp2
    go_rounds 1
    go_ret2
    exact ⟨rfl, Below.refl _ _⟩
  · have HC := Lib.hid hcell
    clear hcell
    go_enter Try.func21, Try.ntmps21
    go_wp2
    go_loop [6] (fun i => ∃ k : Nat, k ≤ es.length ∧ i = .int .i64 k ∧ rget es t = rget (es.drop k) t) (fun i => es.length - (intOf i).toNat)
    case atStart => exact ⟨0, by omega, rfl, rfl⟩
    case round =>
      obtain ⟨k, k1, rfl, hg⟩ := hrel
      have HG := Lib.hid hg
      clear hg
      by_cases hk : k < es.length
      · obtain ⟨c1, c2⟩ := HC.out k hk
        cases he : (es[k].1.toList == t.toList)
        · have hn2 := Lib.hid (show rget es t = rget (es.drop (k + 1)) t by rw [HG.out, List.drop_eq_getElem_cons hk]; exact rget_no (by rw [eq_iff] at he; simpa using he))
          go_wp2
          go_round
          case rel => exact ⟨k + 1, by omega, by go_num, hn2.out⟩
          case measure => simp [intOf]; omega
        · have hn2 := Lib.hid (show rget es t = some es[k].2 by rw [HG.out, List.drop_eq_getElem_cons hk]; exact rget_yes (by rw [eq_iff] at he; simpa using he))
          go_wp2
          go_ret2
          exact ⟨by rw [hn2.out]; rfl, Below.refl _ _⟩
      · have hn2 := Lib.hid (show rget es t = none by rw [HG.out, List.drop_eq_nil_of_le (by omega)]; rfl)
        go_wp2
        go_ret2
        exact ⟨by rw [hn2.out]; rfl, Below.refl _ _⟩
end Go.Proofs.Ythjkhdegjhapcaa.Sa

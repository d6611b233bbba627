/- The walks through errandref30.Same and errandlaw30.Few. -/
import Derived.Test.YthjkhdegjhapcaaSi
namespace Go.Proofs.Ythjkhdegjhapcaa.Sa
open Go.RowKit Sp
theorem len_of {w : World} {v : Value} {es : List Ent} (h : Ents w v es) : ∃ a cap, v = .slice a es.length cap ∧ (a = none → es = []) := by
  rcases h with ⟨rfl, a, cap, rfl, _⟩ | ⟨h0, b, o, cap, rfl, _⟩
  · exact ⟨a, cap, rfl, fun _ => rfl⟩
  · exact ⟨_, cap, rfl, fun h => by cases h⟩
theorem same_lens {va vb : Value} {xs ys : List Ent} {w : World} (hA : Ents w va xs) (hB : Ents w vb ys) (hne : xs.length ≠ ys.length) :
    Calls Try.prog 11 #[va, vb] w fun e w' => e = .returned (.bool false) ∧ Below w.heap.size w w' := by
  obtain ⟨a, ca, rfl, _⟩ := len_of hA
  obtain ⟨b, cb, rfl, _⟩ := len_of hB
  clear hA hB
  have h1 : ((xs.length : Int) != (ys.length : Int)) = true := by rw [bne_iff_ne]; omega
  go_enter Try.func11, Try.ntmps11
  go_wp2
  go_ret
  exact ⟨rfl, Below.refl _ _⟩
set_option maxHeartbeats 2000000 in
theorem same_any {va vb : Value} {xs ys : List Ent} {w : World} (hA : Ents w va xs) (hB : Ents w vb ys) (hna : xs.length ≤ 1000000) :
    Calls Try.prog 11 #[va, vb] w fun e w' => e = .returned (.bool (decide (xs = ys))) ∧ Below w.heap.size w w' := by
  by_cases hne : xs.length ≠ ys.length
  · refine (same_lens hA hB hne).mono fun e w' ⟨he, hw⟩ => ⟨?_, hw⟩
    rw [he, decide_eq_false (fun h => hne (by rw [h]))]
  · have hl : xs.length = ys.length := by omega
    clear hne
    rcases hA with ⟨rfl, a, ca, rfl, _⟩ | ⟨h0, b, o, ca, rfl, hlt, hcap, hcell⟩
    · have : ys = [] := List.eq_nil_of_length_eq_zero (by simpa using hl.symm)
      subst this
      obtain ⟨b, cb, rfl, _⟩ := len_of hB
      clear hB
      go_enter Try.func11, Try.ntmps11
      go_wp2
      go_rounds 1
      go_ret
      exact ⟨rfl, Below.refl _ _⟩
    · rcases hB with ⟨rfl, _⟩ | ⟨h0', b', o', cb, rfl, hlt', hcap', hcell'⟩
      · simp at hl; rw [hl] at h0; cases h0
      · have HA := Lib.hid hcell
        have HB := Lib.hid hcell'
        have HL := Lib.hid hl
        clear hcell hcell'
        have h1 : ((xs.length : Int) != (ys.length : Int)) = false := by rw [bne_eq_false_iff_eq]; omega
        clear hl
        go_enter Try.func11, Try.ntmps11
        go_wp2
        go_loopw [5] (fun i wr => ∃ k : Nat, k ≤ xs.length ∧ i = .int .i64 k ∧ xs.take k = ys.take k ∧ Below w.heap.size w wr) (fun i _ => xs.length - (intOf i).toNat)
        case atStart => exact ⟨0, by omega, rfl, rfl, Below.refl _ _⟩
        case round =>
          obtain ⟨k, k1, rfl, hr, hB⟩ := hrel
          have HR := Lib.hid hr
          clear hr
          have hl := HL.out
          by_cases hk : k < xs.length
          · have hk' : k < ys.length := by omega
            have c1 := (hB.cell (p := ⟨b, o + k * 2, none⟩) hlt).trans (HA.out k hk).1
            have c2 := (hB.cell (p := ⟨b, o + k * 2 + 1, none⟩) hlt).trans (HA.out k hk).2
            have c3 := (hB.cell (p := ⟨b', o' + k * 2, none⟩) hlt').trans (HB.out k hk').1
            have c4 := (hB.cell (p := ⟨b', o' + k * 2 + 1, none⟩) hlt').trans (HB.out k hk').2
            have i2 : (k : Int) < (xs.length : Int) := by omega
            have i3 : (0 : Int) ≤ (k : Int) := by omega
            have i4 : (k : Int) < (ys.length : Int) := by omega
            clear hl
            cases e1 : (xs[k].1.toList == ys[k].1.toList)
            · have hs := Lib.hid (show decide (xs = ys) = false from decide_eq_false (by
                rintro rfl; rw [beq_self_eq_true] at e1; cases e1))
              go_wp2
              go_quiet (fail)
              go_wp2
              go_ret
              exact ⟨ret_b hs.out.symm, Base.below_drewN hB _⟩
            · cases e2 : (xs[k].2 == ys[k].2)
              · have hs := Lib.hid (show decide (xs = ys) = false from decide_eq_false (by
                  rintro rfl; rw [beq_self_eq_true] at e2; cases e2))
                go_wp2
                go_quiet (fail)
                go_wp2
                go_ret
                exact ⟨ret_b hs.out.symm, Base.below_drewN hB _⟩
              · have he := Lib.hid (show xs[k] = ys[k] from Prod.ext (toList_inj (by simpa using e1)) (by simpa using e2))
                go_wp2
                go_quiet (fail)
                go_wp2
                go_roundw
                case rel => exact ⟨k + 1, by omega, by go_num, by rw [take_snoc xs k hk, take_snoc ys k hk', HR.out, he.out], Base.below_drewN hB _⟩
                case measure => simp [intOf]; omega
          · have hs := Lib.hid (show decide (xs = ys) = true from decide_eq_true (by
              have h := HR.out
              rw [List.take_of_length_le (by omega), List.take_of_length_le (by omega)] at h
              exact h))
            clear hl
            go_wp2
            go_ret
            exact ⟨ret_b hs.out.symm, hB⟩
def few (es : List Ent) : Bool := decide (es.length ≤ 60) && es.all fun e => decide (e.1.size ≤ 60)
set_option maxHeartbeats 1000000 in
theorem few_any {v : Value} {es : List Ent} {w : World} (hE : Ents w v es) : Calls Try.prog 7 #[v] w fun e w' => e = .returned (.bool (few es)) ∧ w = w' := by
  by_cases hn : 60 < es.length
  · have hs := Lib.hid (show few es = false by unfold few; rw [decide_eq_false (by omega)]; rfl)
    obtain ⟨a, c, rfl, _⟩ := len_of hE
    clear hE
    have h1 : (60 : Int) < (es.length : Int) := by omega
    go_enter Try.func7, Try.ntmps7
    go_wp2
    go_ret
    exact ⟨ret_b hs.out.symm, rfl⟩
  · have h1 : (es.length : Int) ≤ 60 := by omega
    rcases hE with ⟨rfl, a, cap, rfl, _⟩ | ⟨h0, b, o, cap, rfl, hlt, hcap, hcell⟩
    · go_enter Try.func7, Try.ntmps7
      go_wp2
      go_rounds 1
      go_ret
      exact ⟨rfl, rfl⟩
    · have HC := Lib.hid hcell
      clear hcell
      go_enter Try.func7, Try.ntmps7
      go_wp2
      go_loop [3] (fun i => ∃ k : Nat, k ≤ es.length ∧ i = .int .i64 k ∧ ∀ e ∈ es.take k, e.1.size ≤ 60) (fun i => es.length - (intOf i).toNat)
      case atStart => exact ⟨0, by omega, rfl, fun e he => by simp at he⟩
      case round =>
        obtain ⟨k, k1, rfl, hr⟩ := hrel
        have HR := Lib.hid hr
        clear hr
        by_cases hk : k < es.length
        · have c1 := (HC.out k hk).1
          by_cases hz : es[k].1.size ≤ 60
          · have hs := Lib.hid (show ∀ e ∈ es.take (k + 1), e.1.size ≤ 60 by
              rw [take_snoc es k hk]
              intro e he
              rcases List.mem_append.1 he with h | h
              · exact HR.out e h
              · rw [List.mem_singleton.1 h]; exact hz)
            have hz2 : (es[k].1.size : Int) ≤ 60 := by omega
            go_wp2
            go_round
            case rel => exact ⟨k + 1, by omega, by go_num, hs.out⟩
            case measure => simp [intOf]; omega
          · have hs := Lib.hid (show few es = false by
              unfold few
              have : (es.all fun e => decide (e.1.size ≤ 60)) = false := by
                rw [List.all_eq_false]
                exact ⟨_, List.getElem_mem hk, by simpa using hz⟩
              rw [this, Bool.and_false])
            have hz2 : (60 : Int) < (es[k].1.size : Int) := by omega
            go_wp2
            go_ret
            exact ⟨ret_b hs.out.symm, rfl⟩
        · have hs := Lib.hid (show few es = true by
            unfold few
            rw [decide_eq_true (by omega), Bool.true_and, List.all_eq_true]
            intro e he
            have := HR.out e (by rw [List.take_of_length_le (by omega)]; exact he)
            simpa using this)
          go_wp2
          go_ret
          exact ⟨ret_b hs.out.symm, rfl⟩
end Go.Proofs.Ythjkhdegjhapcaa.Sa

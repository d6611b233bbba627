/- Slices of integers and of weekdays as they lie in memory; the walks through slices.Contains over them. -/
import Derived.Test.YtndicgfafdhieaaRu
import Derived.Test.YtndicgfafdhieaaUt
import Derived.Test.YtndicgfafdhieaaCwb
namespace Go.Proofs.Ytndicgfafdhieaa.Ra
open Go.RowKit Ru Ut Cw
/-- The slice value v reads as the integers l. -/
def Ints (w : World) (v : Value) (l : List Int) : Prop :=
  (l = [] ∧ ∃ a cap, v = .slice a 0 cap ∧ (a = none → cap = 0)) ∨
  (0 < l.length ∧ ∃ b o cap, v = .slice (some ⟨b, o, none⟩) l.length cap ∧ b < w.heap.size ∧ l.length ≤ cap ∧ ∀ i (h : i < l.length), w.cell? ⟨b, o + i, none⟩ = some (.int .i64 l[i]))
theorem Ints.below {w w' : World} {v : Value} {l : List Int} (h : Ints w v l) (hb : Below w.heap.size w w') : Ints w' v l := by
  rcases h with h | ⟨h0, b, o, cap, rfl, hlt, hc, hcell⟩
  · exact .inl h
  · exact .inr ⟨h0, b, o, cap, rfl, Nat.lt_of_lt_of_le hlt hb.size, hc, fun i h => (hb.cell (p := ⟨b, o + i, none⟩) hlt).trans (hcell i h)⟩
/-- The slice value v reads as the weekdays l. -/
def Days (w : World) (v : Value) (l : List (Int × Int)) : Prop :=
  (l = [] ∧ ∃ a cap, v = .slice a 0 cap ∧ (a = none → cap = 0)) ∨
  (0 < l.length ∧ ∃ b o cap, v = .slice (some ⟨b, o, none⟩) l.length cap ∧ b < w.heap.size ∧ l.length ≤ cap ∧ ∀ i (h : i < l.length), w.cell? ⟨b, o + i * 2, none⟩ = some (.int .i64 l[i].1) ∧ w.cell? ⟨b, o + i * 2 + 1, none⟩ = some (.int .i64 l[i].2))
theorem Days.below {w w' : World} {v : Value} {l : List (Int × Int)} (h : Days w v l) (hb : Below w.heap.size w w') : Days w' v l := by
  rcases h with h | ⟨h0, b, o, cap, rfl, hlt, hc, hcell⟩
  · exact .inl h
  · exact .inr ⟨h0, b, o, cap, rfl, Nat.lt_of_lt_of_le hlt hb.size, hc, fun i h => ⟨(hb.cell (p := ⟨b, o + i * 2, none⟩) hlt).trans (hcell i h).1, (hb.cell (p := ⟨b, o + i * 2 + 1, none⟩) hlt).trans (hcell i h).2⟩⟩
theorem index_any {w : World} {v : Value} {l : List Int} (x : Int) (hl : Ints w v l) (hn : l.length ≤ 1000000) :
    Calls Try.prog 58 #[v, .int .i64 x] w fun e w' => (∃ i : Int, e = .returned (.int .i64 i) ∧ decide (0 ≤ i) = decide (x ∈ l)) ∧ w = w' := by
  rcases hl with ⟨rfl, a, cap, rfl, ha⟩ | ⟨h0, b, o, cap, rfl, hlt, hcap, hcell⟩
  · go_enter Try.func58, Try.ntmps58
    go_wp2
    refine wp_loop_rounds 1 ?_
    rw [rounds_succ]
    go_wp2
    go_ret
    exact ⟨⟨_, rfl, by simp⟩, rfl⟩
  · have HC := Lib.hid hcell
    clear hcell
    go_enter Try.func58, Try.ntmps58
    go_wp2
    go_loopw [8] (fun i wr => ∃ k : Nat, k ≤ l.length ∧ i = .int .i64 k ∧ Hid (x ∉ l.take k) ∧ w = wr) (fun i _ => l.length - (intOf i).toNat)
    case atStart => exact ⟨0, by omega, rfl, Lib.hid (by simp), rfl⟩
    case round =>
      obtain ⟨k, k1, rfl, hx, rfl⟩ := hrel
      by_cases hk : k < l.length
      · have c1 := HC.out k hk
        have i2 : (k : Int) < (l.length : Int) := by omega
        have i3 : (0 : Int) ≤ (k : Int) := by omega
        by_cases he : x = l[k]
        · have hq : (x == l[k]) = true := by simp [he]
          have hm : x ∈ l := by rw [he]; exact List.getElem_mem hk
          have hm := Lib.hid hm
          clear he
          go_wp2
          go_ret
          exact ⟨⟨_, rfl, by rw [decide_eq_true (by omega), decide_eq_true hm.out]⟩, rfl⟩
        · have hq : (x == l[k]) = false := by simp [he]
          have hx2 := Lib.hid (show x ∉ l.take (k + 1) by
            rw [List.take_succ_eq_append_getElem hk, List.mem_append]
            rintro (h | h)
            · exact hx.out h
            · exact he (List.mem_singleton.1 h))
          clear he hx
          go_wp2
          go_roundw
          case rel => exact ⟨k + 1, by omega, by go_num, hx2, trivial⟩
          case measure => simp [intOf]; omega
      · have hm := Lib.hid (show x ∉ l by have := hx.out; rwa [List.take_of_length_le (by omega)] at this)
        go_wp2
        go_ret
        exact ⟨⟨_, rfl, by rw [decide_eq_false hm.out]; rfl⟩, rfl⟩
theorem contains_any {w : World} {v : Value} {l : List Int} (x : Int) (hl : Ints w v l) (hn : l.length ≤ 1000000) :
    Calls Try.prog 51 #[v, .int .i64 x] w fun e w' => e = .returned (.bool (decide (x ∈ l))) ∧ w = w' := by
  have F := Lib.hid (index_any x hl hn)
  have hv : ∃ a m c, v = .slice a m c := by
    rcases hl with ⟨_, a, cap, rfl, _⟩ | ⟨_, b, o, cap, rfl, _⟩
    · exact ⟨_, _, _, rfl⟩
    · exact ⟨_, _, _, rfl⟩
  obtain ⟨a, m, c, rfl⟩ := hv
  clear hl
  go_enter Try.func51, Try.ntmps51
  go_wp2_with (first | (go_at_call 58; refine (F.out).mono ?_; rintro e w' ⟨⟨i, rfl, hi⟩, rfl⟩))
  go_ret
  exact ⟨rfl, rfl⟩
end Go.Proofs.Ytndicgfafdhieaa.Ra

/- The walks through errandlaw30.back and own. -/
import Derived.Test.YthjkhdegjhapcaaSk
namespace Go.Proofs.Ythjkhdegjhapcaa.Sa
open Go.RowKit Sp
set_option maxHeartbeats 3200000 in
set_option maxRecDepth 100000 in
theorem back_any {v : Value} {es : List Ent} {w : World} (hE : Ents w v es) (hn : es.length ≤ 1000) :
    Calls Try.prog 12 #[v] w (Made 37 es w) := by
  obtain ⟨i0, hi, hz0, hz1, hz2⟩ := info_parts infoR
  rcases hE with ⟨rfl, a, cap, rfl, _⟩ | ⟨h0, b, o, cap, rfl, hlt, hcap, hcell⟩
  · go_enter Try.func12, Try.ntmps12
    go_wp2
    go_rounds 1
    go_ret
    exact ⟨_, rfl, World.ownsRow_nil _ _ _ _, Below.refl _ _⟩
  · have HC := Lib.hid hcell
    clear hcell
    go_enter Try.func12, Try.ntmps12
    go_wp2
    go_loopw [3, 4] (fun u i wr => ∃ k : Nat, k ≤ es.length ∧ i = .int .i64 k ∧ wr.ownsRow w.heap.size 37 2 u (es.take k).length (cellsOf (es.take k)) ∧ Below w.heap.size w wr) (fun _ i _ => es.length - (intOf i).toNat)
    case atStart => exact ⟨0, by omega, rfl, World.ownsRow_nil _ _ _ _, Below.refl _ _⟩
    case round =>
      obtain ⟨k, k1, rfl, hown, hB⟩ := hrel
      by_cases hk : k < es.length
      · have c1 := (hB.cell (p := ⟨b, o + k * 2, none⟩) hlt).trans (HC.out k hk).1
        have c2 := (hB.cell (p := ⟨b, o + k * 2 + 1, none⟩) hlt).trans (HC.out k hk).2
        have hln : (es.take k).length = k := by rw [List.length_take]; omega
        rw [hln] at hown
        have hs := Lib.hid (show cellsOf (es.take (k + 1)) = cellsOf (es.take k) ++ [.string es[k].1, .int .i64 es[k].2] by rw [take_snoc es k hk, cellsOf_snoc])
        have hl2 := Lib.hid (show (es.take (k + 1)).length = k + 1 by rw [List.length_take]; omega)
        clear hln
        have hb1 := Lib.hid (show k + 1 ≤ maxLen by unfold maxLen; omega)
        have hb2 := Lib.hid (show (k + 1) * 24 ≤ 140737488355328 by omega)
        have i2 : (k : Int) < (es.length : Int) := by omega
        have i3 : (0 : Int) ≤ (k : Int) := by omega
        go_wp2
        go_region_held3 (fun w' => w'.cell? ⟨b, o + k * 2, none⟩ = some (.string es[k].1) ∧ w'.cell? ⟨b, o + k * 2 + 1, none⟩ = some (.int .i64 es[k].2)) (first | go_keep | exact ⟨((keepB hB hown hgrow).cell (p := ⟨b, o + k * 2, none⟩) hlt).trans (HC.out k hk).1, ((keepB hB hown hgrow).cell (p := ⟨b, o + k * 2 + 1, none⟩) hlt).trans (HC.out k hk).2⟩)
          ((refine step_append_lies _ (by rfl) _ _ _ (by rfl) w.heap.size 37 i0 _ 2 24 Try.underlying22 hi hz0 hz1 hz2 rfl (by omega) _ _ _ (by rfl) ((hown.alloc _).drew) ⟨wr.heap.size, 0, none⟩ 1 1 [.string es[k].1, .int .i64 es[k].2] (by rfl) (by rfl) (World.news_of_block (cs := #[.string es[k].1, .int .i64 es[k].2]) (t := 37) (fr := (0, 0)) (heap_alloc_new wr _)) (by simp [Value.oneCell']) (by omega) hb1.out hb2.out (by simp; have := hB.size; omega) (wr.heap.size + 1) (by simp) ?_; intro gg cap1 w1 hown1 hgrow hat hlt1))
        go_wp2
        go_roundw
        case rel => exact ⟨k + 1, by omega, by go_num, ownsRow_cast hown1 rfl hl2.out.symm hs.out.symm, keepB hB hown hgrow⟩
        case measure => simp [intOf]; omega
      · have e : es.take k = es := List.take_of_length_le (by omega)
        rw [e] at hown
        go_wp2
        go_ret
        exact ⟨_, rfl, hown, hB⟩
set_option maxHeartbeats 3200000 in
set_option maxRecDepth 100000 in
theorem own_any {v : Value} {es : List Ent} {w : World} (hE : Ents w v es) (hn : es.length ≤ 1000) :
    Calls Try.prog 15 #[v] w (Made 46 es w) := by
  obtain ⟨i0, hi, hz0, hz1, hz2⟩ := info_parts infoE
  rcases hE with ⟨rfl, a, cap, rfl, _⟩ | ⟨h0, b, o, cap, rfl, hlt, hcap, hcell⟩
  · go_enter Try.func15, Try.ntmps15
    go_wp2
    go_rounds 1
    go_ret
    exact ⟨_, rfl, World.ownsRow_nil _ _ _ _, Below.refl _ _⟩
  · have HC := Lib.hid hcell
    clear hcell
    go_enter Try.func15, Try.ntmps15
    go_wp2
    go_loopw [3, 4] (fun u i wr => ∃ k : Nat, k ≤ es.length ∧ i = .int .i64 k ∧ wr.ownsRow w.heap.size 46 2 u (es.take k).length (cellsOf (es.take k)) ∧ Below w.heap.size w wr) (fun _ i _ => es.length - (intOf i).toNat)
    case atStart => exact ⟨0, by omega, rfl, World.ownsRow_nil _ _ _ _, Below.refl _ _⟩
    case round =>
      obtain ⟨k, k1, rfl, hown, hB⟩ := hrel
      by_cases hk : k < es.length
      · have c1 := (hB.cell (p := ⟨b, o + k * 2, none⟩) hlt).trans (HC.out k hk).1
        have c2 := (hB.cell (p := ⟨b, o + k * 2 + 1, none⟩) hlt).trans (HC.out k hk).2
        have hln : (es.take k).length = k := by rw [List.length_take]; omega
        rw [hln] at hown
        have hs := Lib.hid (show cellsOf (es.take (k + 1)) = cellsOf (es.take k) ++ [.string es[k].1, .int .i64 es[k].2] by rw [take_snoc es k hk, cellsOf_snoc])
        have hl2 := Lib.hid (show (es.take (k + 1)).length = k + 1 by rw [List.length_take]; omega)
        clear hln
        have hb1 := Lib.hid (show k + 1 ≤ maxLen by unfold maxLen; omega)
        have hb2 := Lib.hid (show (k + 1) * 24 ≤ 140737488355328 by omega)
        have i2 : (k : Int) < (es.length : Int) := by omega
        have i3 : (0 : Int) ≤ (k : Int) := by omega
        go_wp2
        go_region_held3 (fun w' => w'.cell? ⟨b, o + k * 2, none⟩ = some (.string es[k].1) ∧ w'.cell? ⟨b, o + k * 2 + 1, none⟩ = some (.int .i64 es[k].2)) (first | go_keep | exact ⟨((keepB hB hown hgrow).cell (p := ⟨b, o + k * 2, none⟩) hlt).trans (HC.out k hk).1, ((keepB hB hown hgrow).cell (p := ⟨b, o + k * 2 + 1, none⟩) hlt).trans (HC.out k hk).2⟩)
          ((refine step_append_lies _ (by rfl) _ _ _ (by rfl) w.heap.size 46 i0 _ 2 24 Try.underlying25 hi hz0 hz1 hz2 rfl (by omega) _ _ _ (by rfl) ((hown.alloc _).drew) ⟨wr.heap.size, 0, none⟩ 1 1 [.string es[k].1, .int .i64 es[k].2] (by rfl) (by rfl) (World.news_of_block (cs := #[.string es[k].1, .int .i64 es[k].2]) (t := 46) (fr := (0, 0)) (heap_alloc_new wr _)) (by simp [Value.oneCell']) (by omega) hb1.out hb2.out (by simp; have := hB.size; omega) (wr.heap.size + 1) (by simp) ?_; intro gg cap1 w1 hown1 hgrow hat hlt1))
        go_wp2
        go_roundw
        case rel => exact ⟨k + 1, by omega, by go_num, ownsRow_cast hown1 rfl hl2.out.symm hs.out.symm, keepB hB hown hgrow⟩
        case measure => simp [intOf]; omega
      · have e : es.take k = es := List.take_of_length_le (by omega)
        rw [e] at hown
        go_wp2
        go_ret
        exact ⟨_, rfl, hown, hB⟩
end Go.Proofs.Ythjkhdegjhapcaa.Sa

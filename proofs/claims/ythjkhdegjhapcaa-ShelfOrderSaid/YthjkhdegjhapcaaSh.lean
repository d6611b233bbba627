/- The walks through errandref30 that make a new list. -/
import Derived.Test.YthjkhdegjhapcaaSg
namespace Go.Proofs.Ythjkhdegjhapcaa.Sa
open Go.RowKit Sp
theorem infoR : (Try.prog.info? 37).map (fun i => (i.zero, i.size, i.bytes)) = some (some (.agg #[.string ByteArray.empty, .int .i64 0]), 2, 24) := by kernel_rfl
/-- what the reference's Drop makes of a list -/
def rdrop (es : List Ent) (t : ByteArray) : List Ent := es.filter fun e => !(e.1.toList == t.toList)
theorem rdrop_len (es : List Ent) (t : ByteArray) : (rdrop es t).length ≤ es.length := List.length_filter_le _ _
theorem rdrop_snoc (es : List Ent) (e : Ent) (t : ByteArray) : rdrop (es ++ [e]) t = rdrop es t ++ (if (e.1.toList == t.toList) = true then [] else [e]) := by
  unfold rdrop; rw [List.filter_append]
  cases h : (e.1.toList == t.toList) <;> simp [h]
theorem cellsOf_snoc (es : List Ent) (e : Ent) : cellsOf (es ++ [e]) = cellsOf es ++ [.string e.1, .int .i64 e.2] := by
  rw [cellsOf_append]; rfl
set_option maxHeartbeats 1000000 in
theorem rDrop_any {v : Value} {es : List Ent} (t : ByteArray) {w : World} (hE : Ents w v es) (hn : es.length ≤ 1000) :
    Calls Try.prog 13 #[v, .string t] w (Made 37 (rdrop es t) w) := by
  obtain ⟨i0, hi, hz0, hz1, hz2⟩ := info_parts infoR
  rcases hE with ⟨rfl, a, cap, rfl, _⟩ | ⟨h0, b, o, cap, rfl, hlt, hcap, hcell⟩
  · go_enter Try.func13, Try.ntmps13
    go_wp2
    go_rounds 1
    go_ret
    exact ⟨_, rfl, World.ownsRow_nil _ _ _ _, Below.refl _ _⟩
  · have HC := Lib.hid hcell
    clear hcell
    go_enter Try.func13, Try.ntmps13
    go_wp2
    go_loopw [5, 6] (fun u i wr => ∃ k : Nat, k ≤ es.length ∧ i = .int .i64 k ∧ wr.ownsRow w.heap.size 37 2 u (rdrop (es.take k) t).length (cellsOf (rdrop (es.take k) t)) ∧ Below w.heap.size w wr) (fun _ i _ => es.length - (intOf i).toNat)
    case atStart => exact ⟨0, by omega, rfl, World.ownsRow_nil _ _ _ _, Below.refl _ _⟩
    case round =>
      obtain ⟨k, k1, rfl, hown, hB⟩ := hrel
      rename_i u5 _
      by_cases hk : k < es.length
      · have c1 := (hB.cell (p := ⟨b, o + k * 2, none⟩) hlt).trans (HC.out k hk).1
        have c2 := (hB.cell (p := ⟨b, o + k * 2 + 1, none⟩) hlt).trans (HC.out k hk).2
        have hlen := rdrop_len (es.take k) t
        rw [List.length_take] at hlen
        have hb1 := Lib.hid (show (rdrop (es.take k) t).length + 1 ≤ maxLen by unfold maxLen; omega)
        have hb2 := Lib.hid (show ((rdrop (es.take k) t).length + 1) * 24 ≤ 140737488355328 by omega)
        cases he : (es[k].1.toList == t.toList)
        · have hs := Lib.hid (show rdrop (es.take (k + 1)) t = rdrop (es.take k) t ++ [es[k]] by rw [take_snoc es k hk, rdrop_snoc, he]; rfl)
          go_wp2_with (at_builtin; refine wpList_append_own _ rfl _ _ _ rfl w.heap.size 37 i0 _ 2 24 Try.underlying22 hi hz0 hz1 hz2 rfl (by decide) _ _ _ rfl (hown.alloc _) ⟨wr.heap.size, 0, none⟩ 1 1 [.string es[k].1, .int .i64 es[k].2] rfl rfl (World.news_of_block (cs := #[.string es[k].1, .int .i64 es[k].2]) (t := 37) (fr := (0, 0)) (heap_alloc_new wr _)) (by simp [Value.oneCell']) hb1.out hb2.out (by simp; have := hB.size; omega) ?_; intro v1 w1 hown1 hg1 _; have hB1 := (hB.alloc hB.size _).grown hg1 (by simp; have := hB.size; omega) (fun k hk => (hown.lt k hk).1))
          go_roundw
          case rel => exact ⟨k + 1, by omega, by go_num, ownsRow_cast hown1 rfl (by rw [hs.out, List.length_append]; rfl) (by rw [hs.out, cellsOf_snoc]), hB1⟩
          case measure => simp [intOf]; omega
        · have hs := Lib.hid (show rdrop (es.take (k + 1)) t = rdrop (es.take k) t by rw [take_snoc es k hk, rdrop_snoc, he]; simp)
          go_wp2
          go_roundw
          case rel => exact ⟨k + 1, by omega, by go_num, by rw [hs.out]; exact hown, hB⟩
          case measure => simp [intOf]; omega
      · have e : es.take k = es := List.take_of_length_le (by omega)
        rw [e] at hown
        go_wp2
        go_ret
        exact ⟨_, rfl, hown, hB⟩
end Go.Proofs.Ythjkhdegjhapcaa.Sa

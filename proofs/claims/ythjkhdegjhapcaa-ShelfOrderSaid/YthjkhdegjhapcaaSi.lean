/- The walks through errandref30.Between and Put. -/
import Derived.Test.YthjkhdegjhapcaaSh
namespace Go.Proofs.Ythjkhdegjhapcaa.Sa
open Go.RowKit Sp
/-- what the reference's Between makes of a list -/
def rbetween (es : List Ent) (f t : ByteArray) : List Ent := es.filter fun e => !(Op.bytesLess e.1.toList f.toList) && Op.bytesLess e.1.toList t.toList
theorem rbetween_len (es : List Ent) (f t : ByteArray) : (rbetween es f t).length ≤ es.length := List.length_filter_le _ _
theorem rbetween_snoc (es : List Ent) (e : Ent) (f t : ByteArray) : rbetween (es ++ [e]) f t = rbetween es f t ++ (if (!(Op.bytesLess e.1.toList f.toList) && Op.bytesLess e.1.toList t.toList) = true then [e] else []) := by
  unfold rbetween; rw [List.filter_append]
  cases h : (!(Op.bytesLess e.1.toList f.toList) && Op.bytesLess e.1.toList t.toList) <;> simp [h]
set_option maxHeartbeats 2000000 in
theorem rBetween_any {v : Value} {es : List Ent} (f t : ByteArray) {w : World} (hE : Ents w v es) (hn : es.length ≤ 1000) :
    Calls Try.prog 23 #[v, .string f, .string t] w (Made 37 (rbetween es f t) w) := by
  obtain ⟨i0, hi, hz0, hz1, hz2⟩ := info_parts infoR
  rcases hE with ⟨rfl, a, cap, rfl, _⟩ | ⟨h0, b, o, cap, rfl, hlt, hcap, hcell⟩
  · go_enter Try.func23, Try.ntmps23
    go_wp2
    go_rounds 1
    go_ret
    exact ⟨_, rfl, World.ownsRow_nil _ _ _ _, Below.refl _ _⟩
  · have HC := Lib.hid hcell
    clear hcell
    go_enter Try.func23, Try.ntmps23
    go_wp2
    go_loopw [7, 8] (fun u i wr => ∃ k : Nat, k ≤ es.length ∧ i = .int .i64 k ∧ wr.ownsRow w.heap.size 37 2 u (rbetween (es.take k) f t).length (cellsOf (rbetween (es.take k) f t)) ∧ Below w.heap.size w wr) (fun _ i _ => es.length - (intOf i).toNat)
    case atStart => exact ⟨0, by omega, rfl, World.ownsRow_nil _ _ _ _, Below.refl _ _⟩
    case round =>
      obtain ⟨k, k1, rfl, hown, hB⟩ := hrel
      by_cases hk : k < es.length
      · have c1 := (hB.cell (p := ⟨b, o + k * 2, none⟩) hlt).trans (HC.out k hk).1
        have c2 := (hB.cell (p := ⟨b, o + k * 2 + 1, none⟩) hlt).trans (HC.out k hk).2
        have hlen := rbetween_len (es.take k) f t
        rw [List.length_take] at hlen
        have hb1 := Lib.hid (show (rbetween (es.take k) f t).length + 1 ≤ maxLen by unfold maxLen; omega)
        have hb2 := Lib.hid (show ((rbetween (es.take k) f t).length + 1) * 24 ≤ 140737488355328 by omega)
        have i2 : (k : Int) < (es.length : Int) := by omega
        have i3 : (0 : Int) ≤ (k : Int) := by omega
        cases h1 : Op.bytesLess es[k].1.toList f.toList
        · cases h2 : Op.bytesLess es[k].1.toList t.toList
          · have hs := Lib.hid (show rbetween (es.take (k + 1)) f t = rbetween (es.take k) f t by rw [take_snoc es k hk, rbetween_snoc, h1, h2]; simp)
            go_wp2
            go_roundw
            case rel => exact ⟨k + 1, by omega, by go_num, by rw [hs.out]; exact hown, hB⟩
            case measure => simp [intOf]; omega
          · have hs := Lib.hid (show rbetween (es.take (k + 1)) f t = rbetween (es.take k) f t ++ [es[k]] by rw [take_snoc es k hk, rbetween_snoc, h1, h2]; simp)
            go_wp2_with (at_builtin; refine wpList_append_own _ rfl _ _ _ rfl w.heap.size 37 i0 _ 2 24 Try.underlying22 hi hz0 hz1 hz2 rfl (by decide) _ _ _ rfl (hown.alloc _) ⟨wr.heap.size, 0, none⟩ 1 1 [.string es[k].1, .int .i64 es[k].2] rfl rfl (World.news_of_block (cs := #[.string es[k].1, .int .i64 es[k].2]) (t := 37) (fr := (0, 0)) (heap_alloc_new wr _)) (by simp [Value.oneCell']) hb1.out hb2.out (by rw [World.size_alloc]; have := hB.size; omega) ?_; intro v1 w1 hown1 hg1 _; have hB1 := (hB.alloc hB.size _).grown hg1 (by rw [World.size_alloc]; have := hB.size; omega) (fun k hk => (hown.lt k hk).1))
            go_roundw
            case rel => exact ⟨k + 1, by omega, by go_num, ownsRow_cast hown1 rfl (by rw [hs.out, List.length_append]; rfl) (by rw [hs.out, cellsOf_snoc]), hB1⟩
            case measure => simp [intOf]; omega
        · have hs := Lib.hid (show rbetween (es.take (k + 1)) f t = rbetween (es.take k) f t by rw [take_snoc es k hk, rbetween_snoc, h1]; simp)
          go_wp2
          go_roundw
          case rel => exact ⟨k + 1, by omega, by go_num, by rw [hs.out]; exact hown, hB⟩
          case measure => simp [intOf]; omega
      · have e : es.take k = es := List.take_of_length_le (by omega)
        rw [e] at hown
        go_wp2
        go_ret
        exact ⟨_, rfl, hown, hB⟩
/-- one round of the reference's Put: what is made so far, and whether the entry is in -/
def rstep (t : ByteArray) (x : Int) (s : List Ent × Bool) (e : Ent) : List Ent × Bool :=
  ((if !(Op.bytesLess e.1.toList t.toList) && !s.2 then s.1 ++ [(t, x)] else s.1) ++ (if (e.1.toList == t.toList) then [] else [e]), (!(Op.bytesLess e.1.toList t.toList) || s.2))
def rput1 (es : List Ent) (t : ByteArray) (x : Int) : List Ent × Bool := es.foldl (rstep t x) ([], false)
/-- what the reference's Put makes of a list -/
def rput (es : List Ent) (t : ByteArray) (x : Int) : List Ent := if (rput1 es t x).2 then (rput1 es t x).1 else (rput1 es t x).1 ++ [(t, x)]
theorem rput1_snoc (es : List Ent) (e : Ent) (t : ByteArray) (x : Int) : rput1 (es ++ [e]) t x = rstep t x (rput1 es t x) e := by
  unfold rput1; rw [List.foldl_append]; rfl
theorem rput1_len (es : List Ent) (t : ByteArray) (x : Int) : (rput1 es t x).1.length + (if (rput1 es t x).2 then 0 else 1) ≤ es.length + 1 := by
  suffices h : ∀ (l : List Ent) (s : List Ent × Bool), (l.foldl (rstep t x) s).1.length + (if (l.foldl (rstep t x) s).2 then 0 else 1) ≤ s.1.length + (if s.2 then 0 else 1) + l.length by
    have := h es ([], false)
    unfold rput1
    simp at this ⊢
    omega
  intro l
  induction l with
  | nil => intro s; cases hs : s.2 <;> simp [hs]
  | cons e l ih =>
    intro s
    rw [List.foldl_cons]
    have h1 := ih (rstep t x s e)
    have h2 : (rstep t x s e).1.length + (if (rstep t x s e).2 then 0 else 1) ≤ s.1.length + (if s.2 then 0 else 1) + 1 := by
      unfold rstep
      cases Op.bytesLess e.1.toList t.toList <;> cases s.2 <;> cases (e.1.toList == t.toList) <;> simp
    rw [List.length_cons]
    omega
set_option maxHeartbeats 2000000 in
theorem rPut_any {v : Value} {es : List Ent} (t : ByteArray) (x : Int) {w : World} (hE : Ents w v es) (hn : es.length ≤ 1000) :
    Calls Try.prog 25 #[v, .string t, .int .i64 x] w (Made 37 (rput es t x) w) := by
  obtain ⟨i0, hi, hz0, hz1, hz2⟩ := info_parts infoR
  rcases hE with ⟨rfl, a, cap, rfl, _⟩ | ⟨h0, b, o, cap, rfl, hlt, hcap, hcell⟩
  · have hown := World.ownsRow_nil w w.heap.size 37 2
    have hB := Below.refl w.heap.size w
    have hb1 := Lib.hid (show 0 + 1 ≤ maxLen by unfold maxLen; omega)
    have hb2 := Lib.hid (show (0 + 1) * 24 ≤ 140737488355328 by omega)
    go_enter Try.func25, Try.ntmps25
    go_wp2
    refine wp_loop_rounds 1 ?_
    rw [rounds_succ]
    go_wp2_with (at_builtin; refine wpList_append_own _ rfl _ _ _ rfl w.heap.size 37 i0 _ 2 24 Try.underlying22 hi hz0 hz1 hz2 rfl (by decide) _ _ _ rfl (hown.alloc _) ⟨w.heap.size, 0, none⟩ 1 1 [.string t, .int .i64 x] rfl rfl (World.news_of_block (cs := #[.string t, .int .i64 x]) (t := 37) (fr := (0, 0)) (heap_alloc_new w _)) (by simp [Value.oneCell']) hb1.out hb2.out (by rw [World.size_alloc]; have := hB.size; omega) ?_; intro v1 w1 hown1 hg1 _; have hB1 := (hB.alloc hB.size _).grown hg1 (by rw [World.size_alloc]; have := hB.size; omega) (fun k hk => (hown.lt k hk).1))
    go_ret
    exact ⟨_, rfl, ownsRow_cast hown1 rfl rfl rfl, hB1⟩
  · have HC := Lib.hid hcell
    clear hcell
    go_enter Try.func25, Try.ntmps25
    go_wp2
    go_loopw [7, 8, 9] (fun u d i wr => ∃ k : Nat, k ≤ es.length ∧ i = .int .i64 k ∧ d = .bool (rput1 (es.take k) t x).2 ∧ wr.ownsRow w.heap.size 37 2 u (rput1 (es.take k) t x).1.length (cellsOf (rput1 (es.take k) t x).1) ∧ Below w.heap.size w wr) (fun _ _ i _ => es.length - (intOf i).toNat)
    case atStart => exact ⟨0, by omega, rfl, rfl, World.ownsRow_nil _ _ _ _, Below.refl _ _⟩
    case round =>
      obtain ⟨k, k1, rfl, rfl, hown, hB⟩ := hrel
      have hlen := rput1_len (es.take k) t x
      rw [List.length_take] at hlen
      have hl2 : (rput1 (es.take k) t x).1.length ≤ k + 1 := by omega
      clear hlen
      have hb1 := Lib.hid (show (rput1 (es.take k) t x).1.length + 1 ≤ maxLen by unfold maxLen; omega)
      have hb2 := Lib.hid (show ((rput1 (es.take k) t x).1.length + 1) * 24 ≤ 140737488355328 by omega)
      have hb3 := Lib.hid (show (rput1 (es.take k) t x).1.length + 1 + 1 ≤ maxLen by unfold maxLen; omega)
      have hb4 := Lib.hid (show ((rput1 (es.take k) t x).1.length + 1 + 1) * 24 ≤ 140737488355328 by omega)
      by_cases hk : k < es.length
      · have c1 := (hB.cell (p := ⟨b, o + k * 2, none⟩) hlt).trans (HC.out k hk).1
        have c2 := (hB.cell (p := ⟨b, o + k * 2 + 1, none⟩) hlt).trans (HC.out k hk).2
        have i2 : (k : Int) < (es.length : Int) := by omega
        have i3 : (0 : Int) ≤ (k : Int) := by omega
        have hsn := Lib.hid (show rput1 (es.take (k + 1)) t x = rstep t x (rput1 (es.take k) t x) es[k] by rw [take_snoc es k hk, rput1_snoc])
        cases h1 : Op.bytesLess es[k].1.toList t.toList
        · cases hd : (rput1 (es.take k) t x).2
          · cases he : (es[k].1.toList == t.toList)
            · have hs := Lib.hid (show rput1 (es.take (k + 1)) t x = ((rput1 (es.take k) t x).1 ++ [(t, x)] ++ [es[k]], true) by rw [hsn.out]; simp [rstep, h1, hd, he])
              go_wp2_with (first
                | (at_builtin; refine wpList_append_own _ rfl _ _ _ rfl w.heap.size 37 i0 _ 2 24 Try.underlying22 hi hz0 hz1 hz2 rfl (by decide) _ _ _ rfl (hown1.alloc _) ⟨w1.heap.size, 0, none⟩ 1 1 [.string es[k].1, .int .i64 es[k].2] rfl rfl (World.news_of_block (cs := #[.string es[k].1, .int .i64 es[k].2]) (t := 37) (fr := (0, 0)) (heap_alloc_new w1 _)) (by simp [Value.oneCell']) hb3.out hb4.out (by rw [World.size_alloc]; have := hB1.size; omega) ?_; intro v2 w2 hown2 hg2 _; have hB2 := (hB1.alloc hB1.size _).grown hg2 (by rw [World.size_alloc]; have := hB1.size; omega) (fun k hk => (hown1.lt k hk).1))
                | (at_builtin; refine wpList_append_own _ rfl _ _ _ rfl w.heap.size 37 i0 _ 2 24 Try.underlying22 hi hz0 hz1 hz2 rfl (by decide) _ _ _ rfl (hown.alloc _) ⟨wr.heap.size, 0, none⟩ 1 1 [.string t, .int .i64 x] rfl rfl (World.news_of_block (cs := #[.string t, .int .i64 x]) (t := 37) (fr := (0, 0)) (heap_alloc_new wr _)) (by simp [Value.oneCell']) hb1.out hb2.out (by rw [World.size_alloc]; have := hB.size; omega) ?_; intro v1 w1 hown1 hg1 _; have hB1 := (hB.alloc hB.size _).grown hg1 (by rw [World.size_alloc]; have := hB.size; omega) (fun k hk => (hown.lt k hk).1); have d1 := (hB1.cell (p := ⟨b, o + k * 2, none⟩) hlt).trans (HC.out k hk).1; have d2 := (hB1.cell (p := ⟨b, o + k * 2 + 1, none⟩) hlt).trans (HC.out k hk).2))
              go_roundw
              case rel => exact ⟨k + 1, by omega, by go_num, by rw [hs.out], ownsRow_cast hown2 rfl (by rw [hs.out, List.length_append, List.length_append]; rfl) (by rw [hs.out, cellsOf_snoc, cellsOf_snoc]), hB2⟩
              case measure => simp [intOf]; omega
            · have hs := Lib.hid (show rput1 (es.take (k + 1)) t x = ((rput1 (es.take k) t x).1 ++ [(t, x)], true) by rw [hsn.out]; simp [rstep, h1, hd, he])
              go_wp2_with (at_builtin; refine wpList_append_own _ rfl _ _ _ rfl w.heap.size 37 i0 _ 2 24 Try.underlying22 hi hz0 hz1 hz2 rfl (by decide) _ _ _ rfl (hown.alloc _) ⟨wr.heap.size, 0, none⟩ 1 1 [.string t, .int .i64 x] rfl rfl (World.news_of_block (cs := #[.string t, .int .i64 x]) (t := 37) (fr := (0, 0)) (heap_alloc_new wr _)) (by simp [Value.oneCell']) hb1.out hb2.out (by rw [World.size_alloc]; have := hB.size; omega) ?_; intro v1 w1 hown1 hg1 _; have hB1 := (hB.alloc hB.size _).grown hg1 (by rw [World.size_alloc]; have := hB.size; omega) (fun k hk => (hown.lt k hk).1); have d1 := (hB1.cell (p := ⟨b, o + k * 2, none⟩) hlt).trans (HC.out k hk).1)
              go_roundw
              case rel => exact ⟨k + 1, by omega, by go_num, by rw [hs.out], ownsRow_cast hown1 rfl (by rw [hs.out, List.length_append]; rfl) (by rw [hs.out, cellsOf_snoc]), hB1⟩
              case measure => simp [intOf]; omega
          · cases he : (es[k].1.toList == t.toList)
            · have hs := Lib.hid (show rput1 (es.take (k + 1)) t x = ((rput1 (es.take k) t x).1 ++ [es[k]], true) by rw [hsn.out]; simp [rstep, h1, hd, he])
              go_wp2_with (at_builtin; refine wpList_append_own _ rfl _ _ _ rfl w.heap.size 37 i0 _ 2 24 Try.underlying22 hi hz0 hz1 hz2 rfl (by decide) _ _ _ rfl (hown.alloc _) ⟨wr.heap.size, 0, none⟩ 1 1 [.string es[k].1, .int .i64 es[k].2] rfl rfl (World.news_of_block (cs := #[.string es[k].1, .int .i64 es[k].2]) (t := 37) (fr := (0, 0)) (heap_alloc_new wr _)) (by simp [Value.oneCell']) hb1.out hb2.out (by rw [World.size_alloc]; have := hB.size; omega) ?_; intro v1 w1 hown1 hg1 _; have hB1 := (hB.alloc hB.size _).grown hg1 (by rw [World.size_alloc]; have := hB.size; omega) (fun k hk => (hown.lt k hk).1))
              go_roundw
              case rel => exact ⟨k + 1, by omega, by go_num, by rw [hs.out], ownsRow_cast hown1 rfl (by rw [hs.out, List.length_append]; rfl) (by rw [hs.out, cellsOf_snoc]), hB1⟩
              case measure => simp [intOf]; omega
            · have hs := Lib.hid (show rput1 (es.take (k + 1)) t x = ((rput1 (es.take k) t x).1, true) by rw [hsn.out]; simp [rstep, h1, hd, he])
              go_wp2
              go_roundw
              case rel => exact ⟨k + 1, by omega, by go_num, by rw [hs.out], by rw [hs.out]; exact hown, hB⟩
              case measure => simp [intOf]; omega
        · have he : (es[k].1.toList == t.toList) = false := by
            rw [beq_eq_false_iff_ne]; intro h; rw [h, less_irrefl] at h1; cases h1
          have hs := Lib.hid (show rput1 (es.take (k + 1)) t x = ((rput1 (es.take k) t x).1 ++ [es[k]], (rput1 (es.take k) t x).2) by rw [hsn.out]; simp [rstep, h1, he])
          go_wp2_with (at_builtin; refine wpList_append_own _ rfl _ _ _ rfl w.heap.size 37 i0 _ 2 24 Try.underlying22 hi hz0 hz1 hz2 rfl (by decide) _ _ _ rfl (hown.alloc _) ⟨wr.heap.size, 0, none⟩ 1 1 [.string es[k].1, .int .i64 es[k].2] rfl rfl (World.news_of_block (cs := #[.string es[k].1, .int .i64 es[k].2]) (t := 37) (fr := (0, 0)) (heap_alloc_new wr _)) (by simp [Value.oneCell']) hb1.out hb2.out (by rw [World.size_alloc]; have := hB.size; omega) ?_; intro v1 w1 hown1 hg1 _; have hB1 := (hB.alloc hB.size _).grown hg1 (by rw [World.size_alloc]; have := hB.size; omega) (fun k hk => (hown.lt k hk).1))
          go_roundw
          case rel => exact ⟨k + 1, by omega, by go_num, by rw [hs.out], ownsRow_cast hown1 rfl (by rw [hs.out, List.length_append]; rfl) (by rw [hs.out, cellsOf_snoc]), hB1⟩
          case measure => simp [intOf]; omega
      · have e : es.take k = es := List.take_of_length_le (by omega)
        rw [e] at hown hb1 hb2 hl2
        have E := Lib.hid e
        cases hd : (rput1 es t x).2
        · have hs := Lib.hid (show rput es t x = (rput1 es t x).1 ++ [(t, x)] by unfold rput; rw [hd]; simp)
          have hd2 : (rput1 (es.take k) t x).2 = false := by rw [E.out]; exact hd
          clear e
          go_wp2_with (at_builtin; refine wpList_append_own _ rfl _ _ _ rfl w.heap.size 37 i0 _ 2 24 Try.underlying22 hi hz0 hz1 hz2 rfl (by decide) _ _ _ rfl (hown.alloc _) ⟨wr.heap.size, 0, none⟩ 1 1 [.string t, .int .i64 x] rfl rfl (World.news_of_block (cs := #[.string t, .int .i64 x]) (t := 37) (fr := (0, 0)) (heap_alloc_new wr _)) (by simp [Value.oneCell']) hb1.out hb2.out (by rw [World.size_alloc]; have := hB.size; omega) ?_; intro v1 w1 hown1 hg1 _; have hB1 := (hB.alloc hB.size _).grown hg1 (by rw [World.size_alloc]; have := hB.size; omega) (fun k hk => (hown.lt k hk).1))
          go_ret
          exact ⟨_, rfl, ownsRow_cast hown1 rfl (by rw [hs.out, List.length_append]; rfl) (by rw [hs.out, cellsOf_snoc]), hB1⟩
        · have hs := Lib.hid (show rput es t x = (rput1 es t x).1 by unfold rput; rw [hd]; simp)
          have hd2 : (rput1 (es.take k) t x).2 = true := by rw [E.out]; exact hd
          clear e
          go_wp2
          go_ret
          exact ⟨_, rfl, by rw [hs.out]; exact hown, hB⟩
end Go.Proofs.Ythjkhdegjhapcaa.Sa

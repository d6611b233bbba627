/- The walks through shelf.Keys, errandlaw30.back and own. -/
import Derived.Test.YthjkhdegjhapcaaSj
import Derived.Deep.RegionHeld3
namespace Go.Proofs.Ythjkhdegjhapcaa.Sa
open Go.RowKit Sp
theorem infoS : (Try.prog.info? 9).map (fun i => (i.zero, i.size, i.bytes)) = some (some (.string ByteArray.empty), 1, 16) := by kernel_rfl
def keysOf (es : List Ent) : List Value := es.map fun e => .string e.1
theorem keysOf_len (es : List Ent) : (keysOf es).length = es.length := by unfold keysOf; rw [List.length_map]
/-- A call made a list of texts. -/
def MadeS (es : List Ent) (w : World) (e : Ending) (w' : World) : Prop :=
  ∃ v', e = .returned v' ∧ w'.ownsRow w.heap.size 9 1 v' es.length (keysOf es) ∧ Below w.heap.size w w'
theorem keepB {w wr w1 : World} {E sz n : Nat} {v : Value} {xs : List Value} {O : Obj} (hB : Below w.heap.size w wr) (hown : wr.ownsRow w.heap.size E sz v n xs) (hg : ((wr.alloc O).drew).grownBy w1 v.ownBlock) : Below w.heap.size w w1 :=
  ((hB.alloc hB.size _).drew).grown hg (by show w.heap.size ≤ (wr.alloc O).heap.size; rw [World.size_alloc]; have := hB.size; omega) (fun k hk => (hown.lt k hk).1)
theorem heap_two_new (w : World) (A B : Obj) : ((w.alloc A).alloc B).heap[w.heap.size + 1]? = some B := by
  have h := heap_alloc_new (w.alloc A) B
  rw [World.size_alloc] at h; exact h
set_option maxHeartbeats 1000000 in
theorem keys_any {v : Value} {es : List Ent} {w : World} (hE : Ents w v es) (hn : es.length ≤ 1000) :
    Calls Try.prog 17 #[v] w (MadeS es w) := by
  obtain ⟨i0, hi, hz0, hz1, hz2⟩ := info_parts infoS
  rcases hE with ⟨rfl, a, cap, rfl, _⟩ | ⟨h0, b, o, cap, rfl, hlt, hcap, hcell⟩
  · go_enter Try.func17, Try.ntmps17
    go_wp2
    go_rounds 1
    go_ret
    exact ⟨_, rfl, World.ownsRow_nil _ _ _ _, Below.refl _ _⟩
  · have HC := Lib.hid hcell
    clear hcell
    go_enter Try.func17, Try.ntmps17
    go_wp2
    go_loopw [3, 8] (fun u i wr => ∃ k : Nat, k ≤ es.length ∧ i = .int .i64 k ∧ wr.ownsRow w.heap.size 9 1 u (es.take k).length (keysOf (es.take k)) ∧ Below w.heap.size w wr) (fun _ i _ => es.length - (intOf i).toNat)
    case atStart => exact ⟨0, by omega, rfl, World.ownsRow_nil _ _ _ _, Below.refl _ _⟩
    case round =>
      obtain ⟨k, k1, rfl, hown, hB⟩ := hrel
      by_cases hk : k < es.length
      · have c1 := (hB.cell (p := ⟨b, o + k * 2, none⟩) hlt).trans (HC.out k hk).1
        have c2 := (hB.cell (p := ⟨b, o + k * 2 + 1, none⟩) hlt).trans (HC.out k hk).2
        have hln : (es.take k).length = k := by rw [List.length_take]; omega
        rw [hln] at hown
        have hs := Lib.hid (show keysOf (es.take (k + 1)) = keysOf (es.take k) ++ [.string es[k].1] by rw [take_snoc es k hk]; unfold keysOf; rw [List.map_append]; rfl)
        have hl2 := Lib.hid (show (es.take (k + 1)).length = k + 1 by rw [List.length_take]; omega)
        clear hln
        have hb1 := Lib.hid (show k + 1 ≤ maxLen by unfold maxLen; omega)
        have hb2 := Lib.hid (show (k + 1) * 16 ≤ 140737488355328 by omega)
        go_wp2_with (at_builtin; refine wpList_append_own _ rfl _ _ _ rfl w.heap.size 9 i0 _ 1 16 Try.underlying34 hi hz0 hz1 hz2 rfl (by decide) _ _ _ rfl ((hown.alloc _).alloc _) ⟨wr.heap.size + 1, 0, none⟩ 1 1 [.string es[k].1] rfl rfl (World.news_of_block (cs := #[.string es[k].1]) (t := 9) (fr := (0, 0)) (heap_two_new wr _ _)) (by simp [Value.oneCell']) hb1.out hb2.out (by rw [World.size_alloc, World.size_alloc]; have := hB.size; omega) ?_; intro v1 w1 hown1 hg1 _; have hB1 := ((hB.alloc hB.size _).alloc (by rw [World.size_alloc]; have := hB.size; omega) _).grown hg1 (by rw [World.size_alloc, World.size_alloc]; have := hB.size; omega) (fun k hk => (hown.lt k hk).1))
        go_roundw
        case rel => exact ⟨k + 1, by omega, by go_num, ownsRow_cast hown1 rfl hl2.out.symm hs.out.symm, hB1⟩
        case measure => simp [intOf]; omega
      · have e : es.take k = es := List.take_of_length_le (by omega)
        rw [e] at hown
        go_wp2
        go_ret
        exact ⟨_, rfl, hown, hB⟩
end Go.Proofs.Ythjkhdegjhapcaa.Sa

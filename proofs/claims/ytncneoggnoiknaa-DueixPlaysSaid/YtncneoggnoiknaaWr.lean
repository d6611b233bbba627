/- The walk through Put at an index without entries, and Put at any index. -/
import Derived.Test.YtncneoggnoiknaaWq
import Derived.Deep.AppendLies
namespace Go.Proofs.Ytncneoggnoiknaa.Du
open Go.RowKit Sp Ut Me
theorem held_block {w w' : World} {e : TypeId} {b lo hi : Nat} {xs : List Value} (h : Held w e b lo hi xs) (k : w'.heap[b]? = w.heap[b]?) : Held w' e b lo hi xs := by
  obtain ⟨cur, h1, h2⟩ := h
  exact ⟨cur, k.trans h1, h2⟩
theorem new12 (w : World) (o : Obj) (a : Value) (t : TypeId) : Held ((w.alloc o).alloc (.cells #[a] t)).drew t (w.heap.size + 1) 0 1 [a] := by
  have := new1 (w.alloc o) a t
  rw [World.size_alloc] at this
  exact this
theorem new21 (w : World) (o : Obj) (a b : Value) (t : TypeId) : Held ((w.alloc (.cells #[a, b] t)).alloc o).drew t w.heap.size 0 2 [a, b] :=
  (new2 w a b t).of_below (B := w.heap.size + 1) (Below.drew (Below.alloc (Below.refl _ _) (by rw [World.size_alloc]; exact Nat.le_refl _) o)) (Nat.lt_succ_self _)
set_option maxHeartbeats 4000000 in
set_option maxRecDepth 100000 in
theorem put_first {w : World} {p : Nat} {v : Value} (y : Int) (t : ByteArray) (hI : Idx w p v []) :
    Calls Try.prog 13 #[.pointer (some ⟨p, 0, none⟩), .agg #[.int .i64 y, .string t]] w (PutQ p v [] (y, t) w) := by
  have FI := Lib.hid (fun W (hB : Below w.heap.size w W) => find_none (w := W) y t (hI.below hB))
  obtain ⟨i0, hi, hz0, hz1, hz2⟩ := info_parts Il.info
  have hplt := hI.plt
  have M0 := Lib.hid hI.mem
  have hv : ∃ a c, v = .slice a 0 c := by
    rcases hI.lists.2 with ⟨h1, _⟩ | ⟨g, cap, cur, h1, _⟩
    · exact ⟨none, 0, h1⟩
    · exact ⟨_, _, h1⟩
  have hn : (((allE []).length : Nat) : Int) = 0 := rfl
  rw [hn] at M0
  clear hI hn
  obtain ⟨va, vc, rfl⟩ := hv
  go_enter Try.func13, Try.ntmps13
  go_wp2_with (go_at_call 26; (with_reducible refine (FI.out _ (by (repeat' (first | assumption | exact Below.refl _ _ | apply Below.next_alloc | apply Below.drew | (apply Below.next; rotate_left; assumption))))).mono ?_); rintro e w1 ⟨rfl, hB1⟩; have hB : Below w.heap.size w w1 := (by (repeat' (first | assumption | exact Below.refl _ _ | apply Below.next_alloc | apply Below.drew | (apply Below.next; rotate_left; assumption)))); have M1 := Lib.hid (M0.out.below hB); have c1 := cell_of M1.out.ptr 1; have c2 := frozen_of M1.out.ptr 1; have c0 := cell_of M1.out.ptr 0; simp only [List.getElem?_toArray, List.getElem?_cons_zero, List.getElem?_cons_succ] at c0 c1)
  obtain ⟨k0, k1, k2⟩ := boxed2 hB1
  have M2 : Mem (w1.setCell ⟨p, 1, none⟩ (.int .i64 1)) p (.slice va 0 vc) 1 [] := M1.out.count _
  have hV : Moved (Own p (.slice va 0 vc) []) (Own p (.slice va 0 vc) []) w (w1.setCell ⟨p, 1, none⟩ (.int .i64 1)) := (Moved.of_below hB).trans (Moved.setCell ⟨p, 1, none⟩ _ (.inl rfl))
  have hpw : w.heap.size ≠ p := by omega
  have kk : InReg p 1 2 w1 (w1.setCell ⟨p, 1, none⟩ (.int .i64 1)) := InReg.setCell w1 (by omega) (by omega) _
  have f2 : (w1.setCell ⟨p, 1, none⟩ (.int .i64 1)).cell? ⟨w.heap.size, 0, none⟩ = some (.int .i64 y) := (World.cell?_of_block (w := w1) (kk.block w.heap.size k0 hpw)).trans k1
  have f3 : (w1.setCell ⟨p, 1, none⟩ (.int .i64 1)).cell? ⟨w.heap.size, 1, none⟩ = some (.string t) := (World.cell?_of_block (w := w1) (kk.block w.heap.size k0 hpw)).trans k2
  have h2 : w.heap.size < (w1.setCell ⟨p, 1, none⟩ (.int .i64 1)).heap.size := by rw [World.size_setCell]; exact k0
  clear c0 c1 c2 k0 k1 k2 kk hB1 M1 hB
  generalize w1.setCell ⟨p, 1, none⟩ (.int .i64 1) = w2 at *
  have f0 := cell_of M2.ptr 0
  simp only [List.getElem?_toArray, List.getElem?_cons_zero] at f0
  have h0 := lt_of M2.ptr
  have HL := M2.lists
  simp only [List.map_nil, List.length_nil] at HL
  have HL := Lib.hid HL
  have M2 := Lib.hid M2
  have hV := Lib.hid hV
  have i5 : p ≠ w2.heap.size := by omega
  have i6 : w.heap.size ≠ w2.heap.size := by omega
  go_region_law (refine step_append_lies _ rfl (.tmp 37) (.tmp 40) 53 rfl 0 43 i0 _ 1 24 Try.underlying53 hi hz0 hz1 hz2 rfl (by decide) (.slice va 0 vc) 0 [] (by simp [Act.eval]) (ownsRow_below HL.out (by (repeat' (first | assumption | exact Below.refl _ _ | apply Below.next_alloc | apply Below.drew | (apply Below.next; rotate_left; assumption))))) ⟨w2.heap.size + 1, 0, none⟩ 1 1 [.slice (some ⟨w2.heap.size, 0, none⟩) 1 1] (by simp [Act.eval]) rfl (by intro j u hu; rw [Addr.add_lit]; exact (new12 w2 _ _ _).cell j u hu) (by intro u hu; rw [List.mem_singleton] at hu; rw [hu]; rfl) (by decide) (by decide) (by decide) (by omega) _ rfl ?_; intro g2 cap2 w3 s2 s3 s4 s5; have d1 := (s3.block p (by simp; omega) (fun e => M2.out.p_g e.symm rfl)).trans (show _ = w2.heap[p]? from (Below.block (B := w2.heap.size) (w := w2) (by (repeat' (first | assumption | exact Below.refl _ _ | apply Below.next_alloc | apply Below.drew | (apply Below.next; rotate_left; assumption)))) p h0)); have e0 := cell_of (d1.trans M2.out.ptr) 0; have e2 := frozen_of (d1.trans M2.out.ptr) 0; simp only [List.getElem?_toArray, List.getElem?_cons_zero] at e0)
  all_goals
    go_wp2
    go_ret
    have hBx : Below w2.heap.size w2 ((w2.alloc (.cells #[.int .i64 y, .string t] 29)).alloc (.cells #[.slice (some ⟨w2.heap.size, 0, none⟩) 1 1] 43)).drew := by (repeat' (first | assumption | exact Below.refl _ _ | apply Below.next_alloc | apply Below.drew | (apply Below.next; rotate_left; assumption)))
    have hxs : w2.heap.size < ((w2.alloc (.cells #[.int .i64 y, .string t] 29)).alloc (.cells #[.slice (some ⟨w2.heap.size, 0, none⟩) 1 1] 43)).drew.heap.size := by rw [World.size_drew, World.size_alloc, World.size_alloc]; omega
    have hr1 : Held ((w2.alloc (.cells #[.int .i64 y, .string t] 29)).alloc (.cells #[.slice (some ⟨w2.heap.size, 0, none⟩) 1 1] 43)).drew 29 w2.heap.size 0 2 [.int .i64 y, .string t] :=
      new21 w2 _ _ _ _
    have hvo : ∀ k, (Value.slice va 0 vc).ownBlock = some k → k < w2.heap.size := fun k hk => (M2.out.lists.lt k hk).2
    have hr2 : Held w3 29 w2.heap.size 0 2 [.int .i64 y, .string t] := held_block hr1 (s3.block _ hxs (fun e => by have := hvo _ e.symm; omega))
    have hr : SgAt w3 ⟨w2.heap.size, 0, 1, [(y, t)]⟩ := ⟨hr2, by show (1 : Nat) ≤ 9223372036854775807; omega⟩
    have hg2p : g2 ≠ p := by
      rcases s4 with h | h
      · exact (M2.out.p_g h).symm
      · rw [h]; simp; omega
    have z1 := Mem.turn (SS' := [⟨w2.heap.size, 0, 1, [(y, t)]⟩]) (d1.trans M2.out.ptr) s2 (fun e => hg2p (Option.some.inj e)) (fun s hs => by rw [List.mem_singleton] at hs; rw [hs]; exact hr) (fun s hs => by rw [List.mem_singleton] at hs; rw [hs]; exact i5.symm) (List.pairwise_singleton _ _)
    have mv : Moved (Own p (.slice va 0 vc) []) (Own p (.slice va 0 vc) []) w2 w3 := by
      refine ⟨s3.os.trans hBx.os, s3.tape.trans hBx.tape, s3.output.trans hBx.output, Nat.le_trans hBx.size s3.size, fun k hk hO => ?_, fun k hk => .inl hk⟩
      exact (s3.block k (Nat.lt_of_lt_of_le hk hBx.size) (fun e => hO (.inr (.inl e.symm)))).trans (hBx.block k hk)
    have z2 := (hV.out.trans (mv.trans (Moved.setCell ⟨p, 0, none⟩ (.slice (some ⟨g2, 0, none⟩) (0 + 1) cap2) (.inl rfl)))).weak (O'' := Own p (.slice (some ⟨g2, 0, none⟩) (0 + 1) cap2) [⟨w2.heap.size, 0, 1, [(y, t)]⟩]) (by
      have hsz := hV.out.size
      rintro k (hk | hk | ⟨x, hx, rfl⟩)
      · exact .inl (.inl hk)
      · cases hk
        rcases s4 with h | h
        · exact .inl (.inr (.inl h))
        · rw [h]; refine .inr (Nat.le_trans hsz hBx.size)
      · rw [List.mem_singleton] at hx
        rw [hx]; exact .inr hsz)
    refine ⟨_, [⟨w2.heap.size, 0, 1, [(y, t)]⟩], rfl, Idx.of_mem z1 ⟨?_, ?_⟩, rfl, z2⟩
    · exact List.pairwise_singleton _ _
    · intro l hl
      simp only [ess, List.map_cons, List.map_nil, List.mem_singleton] at hl
      rw [hl]; simp
theorem put_any {w : World} {p : Nat} {v : Value} {SS : List Sg} (y : Int) (t : ByteArray) (hI : Idx w p v SS) (hm : (allE SS).length ≤ 1000) :
    Calls Try.prog 13 #[.pointer (some ⟨p, 0, none⟩), .agg #[.int .i64 y, .string t]] w (PutQ p v SS (y, t) w) := by
  by_cases hne : SS = []
  · subst hne; exact put_first y t hI
  · obtain ⟨pre, s, post, rfl, hpl, h1, h2⟩ := parts hI.ok hne (y, t)
    cases hh : hasE s.es (y, t)
    · by_cases h8 : s.es.length < 8
      · exact put_in y t hI hm hpl h1 h2 hh h8
      · exact put_split y t hI hm hpl h1 h2 hh (by omega)
    · refine (put_has y t hI hm hpl hh).mono ?_
      rintro e w' ⟨rfl, hB⟩
      have hp := has_part (s := s) h1 h2
      rw [hh] at hp
      refine ⟨v, _, by rw [hp]; rfl, hI.below hB, ?_, Moved.of_below hB⟩
      unfold putE
      rw [hp]; rfl
end Go.Proofs.Ytncneoggnoiknaa.Du

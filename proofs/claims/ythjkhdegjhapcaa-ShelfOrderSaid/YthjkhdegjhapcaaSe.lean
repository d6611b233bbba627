/- The walks through slices.Clone and the program's shelf.Between. -/
import Derived.Test.YthjkhdegjhapcaaSd
import Derived.WalkSpells
namespace Go.Proofs.Ythjkhdegjhapcaa.Sa
open Go.RowKit Sp
theorem ownsRow_base {w : World} {base base' E sz : Nat} {v : Value} {n : Nat} {xs : List Value} (h : w.ownsRow base E sz v n xs) (hb : base' ≤ base) : w.ownsRow base' E sz v n xs :=
  ⟨h.1, h.2.imp id fun ⟨g, cap, cur, a, b, c⟩ => ⟨g, cap, cur, a, Nat.le_trans hb b, c⟩⟩
theorem ownsRow_pos {w : World} {base E sz : Nat} {v : Value} {n : Nat} {xs : List Value} (h : w.ownsRow base E sz v n xs) (hn : 0 < n) : ∃ g cap, v = .slice (some ⟨g, 0, none⟩) n cap := by
  rcases h.2 with ⟨_, hz⟩ | ⟨g, cap, cur, hv, _⟩
  · omega
  · exact ⟨g, cap, hv⟩
set_option maxHeartbeats 1000000 in
theorem clone_any (ad : Addr) (m c : Nat) (es : List Ent) (w : World) (hm : m = es.length) (hn : es.length ≤ 1000) (h0 : 0 < es.length) (hc : ∀ j u, (cellsOf es)[j]? = some u → w.cell? (ad.add j) = some u) :
    Calls Try.prog 29 #[.slice (some ad) m c] w (Made 46 es w) := by
  obtain ⟨i0, hi, hz0, hz1, hz2⟩ := info_parts infoE
  have HC := Lib.hid hc
  have hm0 : 0 < m := by omega
  have hnil := fun W => Lib.run_eql_slice_nil (P := Try.prog) W 25
  have Hm := Lib.hid hm
  clear hc hm
  have hown0 : (w.alloc (.cells #[] 46)).ownsRow w.heap.size 46 2 (.slice (some ⟨w.heap.size, 0, none⟩) 0 0) 0 [] := World.ownsRow_lit w #[] 0 (Nat.le_refl _) (by unfold maxLen; omega) rfl
  have hB0 : Below w.heap.size w (w.alloc (.cells #[] 46)) := (Below.refl _ _).alloc (Nat.le_refl _) _
  have hnews : Hid (∀ j u, (cellsOf es)[j]? = some u → (w.alloc (.cells #[] 46)).cell? (ad.add j) = some u) := Lib.hid fun j u hu => by
    have h := HC.out j u hu
    exact (hB0.cell (World.block_lt_of_cell? w _ h)).trans h
  go_enter Try.func29, Try.ntmps29
  go_wp2_with (at_builtin; refine wpList_append_own _ rfl _ _ _ rfl w.heap.size 46 i0 _ 2 24 Try.underlying25 hi hz0 hz1 hz2 rfl (by decide) _ 0 [] rfl hown0 ad m c (cellsOf es) rfl (by rw [Hm.out, cellsOf_length]) hnews.out (cellsOf_one _) (by rw [Hm.out]; unfold maxLen; omega) (by rw [Hm.out]; omega) (by simp) ?_; intro v5 w5 hown5 hg5 _; have hB5 := hB0.grown hg5 (by simp) (fun k hk => by cases hk; exact Nat.le_refl _); simp only [Nat.zero_add, List.nil_append] at hown5; obtain ⟨g5, cap5, rfl⟩ := ownsRow_pos hown5 hm0)
  go_ret
  exact ⟨_, rfl, ownsRow_cast hown5 (by show Value.slice _ _ _ = Value.slice _ _ _; first | rfl | (congr 1; omega)) (by rw [Hm.out]) rfl, hB5⟩
/-- what Between tells of a shelf -/
def pbetween (es : List Ent) (f t : ByteArray) : List Ent := if cnt es t ≤ cnt es f then [] else (es.drop (cnt es f)).take (cnt es t - cnt es f)
set_option maxHeartbeats 1000000 in
theorem between_any {v : Value} {es : List Ent} (f t : ByteArray) {w : World} (hE : Ents w v es) (hs : Sorted es) (hn : es.length ≤ 1000) :
    Calls Try.prog 22 #[v, .string f, .string t] w (Made 46 (pbetween es f t) w) := by
  have F1 := Lib.hid (find_any f hE hs (by omega))
  have F2 := Lib.hid (fun w1 (hb : Below w.heap.size w w1) => find_any t (hE.below hb) hs (by omega))
  have c1 := cnt_le es f
  have c2 := cnt_le es t
  by_cases hk : cnt es t ≤ cnt es f
  · have hp := Lib.hid (show pbetween es f t = [] by unfold pbetween; rw [if_pos hk])
    go_enter Try.func22, Try.ntmps22
    go_wp2_with fail
    refine F1.out.mono ?_
    rintro e w1 ⟨rfl, hB1⟩
    go_wp2_with fail
    refine (F2.out _ hB1).mono ?_
    rintro e w2 ⟨rfl, hB2⟩
    go_wp2
    go_ret
    exact ⟨_, rfl, by rw [hp.out]; exact World.ownsRow_nil _ _ _ _, hB1.trans (hB2.mono hB1.size)⟩
  · have hp := Lib.hid (show pbetween es f t = (es.drop (cnt es f)).take (cnt es t - cnt es f) by unfold pbetween; rw [if_neg hk])
    have hl := Lib.hid (show ((es.drop (cnt es f)).take (cnt es t - cnt es f)).length = cnt es t - cnt es f by rw [List.length_take, List.length_drop]; omega)
    rcases hE with ⟨rfl, _⟩ | ⟨h0, b, o, cap, rfl, hlt, hcap, hcell⟩
    · exact absurd (Nat.zero_le _) hk
    · have HC := Lib.hid hcell
      clear hcell
      have hne : ¬ cap = cnt es f := by omega
      have i1 : (cnt es f : Int) ≤ (cnt es t : Int) := by omega
      go_enter Try.func22, Try.ntmps22
      go_wp2_with fail
      refine F1.out.mono ?_
      rintro e w1 ⟨rfl, hB1⟩
      go_wp2_with fail
      refine (F2.out _ hB1).mono ?_
      rintro e w2 ⟨rfl, hB2⟩
      go_wp2_with fail
      have hB := hB1.trans (hB2.mono hB1.size)
      refine (clone_any ⟨b, o + cnt es f * 2, none⟩ (cnt es t - cnt es f) _ ((es.drop (cnt es f)).take (cnt es t - cnt es f)) _ hl.out.symm (by rw [hl.out]; omega) (by rw [hl.out]; omega) ?_).mono ?_
      · intro j u hu
        rw [cellsOf_take] at hu
        exact tail_news hlt hB HC (cnt es f) (fun _ => rfl) j u (List.getElem?_take_some hu)
      · rintro e w3 ⟨v3, rfl, hown, hB3⟩
        go_wp2
        go_ret
        exact ⟨_, rfl, by rw [hp.out]; exact ownsRow_base hown hB.size, hB.trans (hB3.mono hB.size)⟩
end Go.Proofs.Ythjkhdegjhapcaa.Sa

/- The walk through Put. -/
import Derived.Test.YtncneoggnoiknaaWl
import Derived.Test.YtncneoggnoiknaaIz
import Derived.Test.YtncneoggnoiknaaIe
import Derived.Test.YtncneoggnoiknaaIl
namespace Go.Proofs.Ytncneoggnoiknaa.Du
open Go.RowKit Sp Ut Me
theorem new2 (w : World) (a b : Value) (t : TypeId) : Held (w.alloc (.cells #[a, b] t)) t w.heap.size 0 2 [a, b] := Held.new w t #[a, b] [a, b] (fun j u hu => by simpa using hu) (by simp)
theorem new2d (w : World) (a b : Value) (t : TypeId) : Held (w.alloc (.cells #[a, b] t)).drew t w.heap.size 0 2 [a, b] := new2 w a b t
theorem new1 (w : World) (a : Value) (t : TypeId) : Held (w.alloc (.cells #[a] t)) t w.heap.size 0 1 [a] := Held.new w t #[a] [a] (fun j u hu => by simpa using hu) (by simp)
theorem put_nil (y : Int) (t : ByteArray) (w : World) : Calls Try.prog 13 #[.pointer none, .agg #[.int .i64 y, .string t]] w fun e w' => e = .returned (.bool false) ∧ Below w.heap.size w w' := by
  go_enter Try.func13, Try.ntmps13
  go_wp2
  go_ret
  exact ⟨rfl, by go_grown⟩
/-- what Put makes of an index -/
def PutQ (p : Nat) (v : Value) (SS : List Sg) (e : E) (w : World) (en : Ending) (w' : World) : Prop :=
  ∃ v' SS', en = .returned (.bool (!hasE (allE SS) e)) ∧ Idx w' p v' SS' ∧ allE SS' = putE (allE SS) e ∧ Moved (Own p v SS) (Own p v' SS') w w'
theorem put_has {w : World} {p : Nat} {v : Value} {pre post : List Sg} {s : Sg} (y : Int) (t : ByteArray) (hI : Idx w p v (pre ++ s :: post)) (hm : (allE (pre ++ s :: post)).length ≤ 1000) (hpl : place (ess (pre ++ s :: post)) (y, t) = pre.length)
    (hh : hasE s.es (y, t) = true) : Calls Try.prog 13 #[.pointer (some ⟨p, 0, none⟩), .agg #[.int .i64 y, .string t]] w fun e w' => e = .returned (.bool false) ∧ Below w.heap.size w w' := by
  have FI := Lib.hid (fun W (hB : Below w.heap.size w W) => find_any (w := W) y t (hI.below hB) pre.length (by simp) hpl hm)
  simp only [List.getElem_append_right (Nat.le_refl _), Nat.sub_self, List.getElem_cons_zero, hh] at FI
  clear hI hm hpl hh
  go_enter Try.func13, Try.ntmps13
  go_wp2_with (go_at_call 26; (with_reducible refine (FI.out _ (by (repeat' (first | assumption | exact Below.refl _ _ | apply Below.next_alloc | apply Below.drew | (apply Below.next; rotate_left; assumption))))).mono ?_); rintro e w1 ⟨rfl, hB1⟩)
  go_ret
  exact ⟨rfl, by (repeat' (first | assumption | exact Below.refl _ _ | apply Below.next_alloc | apply Below.drew | (apply Below.next; rotate_left; assumption)))⟩
set_option maxHeartbeats 4000000 in
set_option maxRecDepth 100000 in
theorem put_in {w : World} {p : Nat} {v : Value} {pre post : List Sg} {s : Sg} (y : Int) (t : ByteArray) (hI : Idx w p v (pre ++ s :: post)) (hm : (allE (pre ++ s :: post)).length ≤ 1000) (hpl : place (ess (pre ++ s :: post)) (y, t) = pre.length)
    (p1 : ∀ l ∈ ess pre, ∀ x ∈ l, less x (y, t) = true) (p2 : ∀ l ∈ ess post, ∀ x ∈ l, less (y, t) x = true) (hh : hasE s.es (y, t) = false) (h8 : s.es.length < 8) :
    Calls Try.prog 13 #[.pointer (some ⟨p, 0, none⟩), .agg #[.int .i64 y, .string t]] w (PutQ p v (pre ++ s :: post) (y, t) w) := by
  have FI := Lib.hid (fun W (hB : Below w.heap.size w W) => find_any (w := W) y t (hI.below hB) pre.length (by simp) hpl hm)
  simp only [List.getElem_append_right (Nat.le_refl _), Nat.sub_self, List.getElem_cons_zero, hh] at FI
  obtain ⟨g, cap, cur, rfl, hg, hcs, hnc, hcm, HG⟩ := hI.row (by simp)
  have hlen := all_pos hI.ok
  have hplt := hI.plt
  have hglt := HG.lt
  have hel := es_le (SS := pre ++ s :: post) (s := s) (by simp)
  obtain ⟨m, hmm⟩ : ∃ m, (pre ++ s :: post).length = m := ⟨_, rfl⟩
  obtain ⟨n, hn⟩ : ∃ n, (allE (pre ++ s :: post)).length = n := ⟨_, rfl⟩
  have hip : pre.length < m := by rw [← hmm]; simp
  have hpos : 0 < s.es.length := List.length_pos_iff.2 (es_ne hI.ok (s := s) (by simp))
  have hcl := cnt_le s.es (y, t)
  have hHas := Lib.hid (has_part (s := s) p1 p2)
  have hPut := Lib.hid (fun (s' : Sg) => put_part (s' := s') hI.ok p1 p2 hh)
  have M0 := hI.mem
  obtain ⟨b, o, c, l⟩ := s
  rw [hmm, hn] at M0
  rw [hmm] at hlen hnc ⊢
  rw [hn] at hlen hel hm
  simp only at hh h8 hel hpos hcl
  have M0 := Lib.hid M0
  have HN := Lib.hid hn
  have HM := Lib.hid hmm
  have HH := Lib.hid hh
  have FINS := Lib.hid (fun (W : World) (vb : Nat) (hne : vb ≠ b) (H : Held W 29 b o (o + c * 2) (cellsE l)) (HV : Held W 29 vb 0 2 [.int .i64 y, .string t]) (hc : c ≤ 9223372036854775807) => Ie.ins_any b o l.length c (cntE l (y, t)) vb 1 (cellsE l) [.int .i64 y, .string t] W hcl hpos (by omega) hc hne (cellsE_len l) rfl H HV (cellsE_one l) (by simp [Value.oneCell']))
  clear hI hg hcs HG hpl hn hmm hh
  go_enter Try.func13, Try.ntmps13
  go_wp2_with (go_at_call 26; (with_reducible refine (FI.out _ (by (repeat' (first | assumption | exact Below.refl _ _ | apply Below.next_alloc | apply Below.drew | (apply Below.next; rotate_left; assumption))))).mono ?_); rintro e w1 ⟨rfl, hB1⟩; have hB : Below w.heap.size w w1 := (by (repeat' (first | assumption | exact Below.refl _ _ | apply Below.next_alloc | apply Below.drew | (apply Below.next; rotate_left; assumption)))); have M1 := Lib.hid (M0.out.below hB); have c1 := cell_of M1.out.ptr 1; have c2 := frozen_of M1.out.ptr 1; have c0 := cell_of M1.out.ptr 0; simp only [List.getElem?_toArray, List.getElem?_cons_zero, List.getElem?_cons_succ] at c0 c1)
  obtain ⟨k0, k1, k2⟩ := boxed2 hB1
  have M2 : Mem (w1.setCell ⟨p, 1, none⟩ (.int .i64 ((n : Int) + 1))) p (.slice (some ⟨g, 0, none⟩) m cap) ((n : Int) + 1) (pre ++ ⟨b, o, c, l⟩ :: post) := M1.out.count _
  have hV : Moved (Own p (.slice (some ⟨g, 0, none⟩) m cap) (pre ++ ⟨b, o, c, l⟩ :: post)) (Own p (.slice (some ⟨g, 0, none⟩) m cap) (pre ++ ⟨b, o, c, l⟩ :: post)) w (w1.setCell ⟨p, 1, none⟩ (.int .i64 ((n : Int) + 1))) := (Moved.of_below hB).trans (Moved.setCell ⟨p, 1, none⟩ _ (.inl rfl))
  have hpw : w.heap.size ≠ p := by omega
  have kk : InReg p 1 2 w1 (w1.setCell ⟨p, 1, none⟩ (.int .i64 ((n : Int) + 1))) := InReg.setCell w1 (by omega) (by omega) _
  have f2 : (w1.setCell ⟨p, 1, none⟩ (.int .i64 ((n : Int) + 1))).cell? ⟨w.heap.size, 0, none⟩ = some (.int .i64 y) := (World.cell?_of_block (w := w1) (kk.block w.heap.size k0 hpw)).trans k1
  have f3 : (w1.setCell ⟨p, 1, none⟩ (.int .i64 ((n : Int) + 1))).cell? ⟨w.heap.size, 1, none⟩ = some (.string t) := (World.cell?_of_block (w := w1) (kk.block w.heap.size k0 hpw)).trans k2
  have h2 : w.heap.size < (w1.setCell ⟨p, 1, none⟩ (.int .i64 ((n : Int) + 1))).heap.size := by rw [World.size_setCell]; exact k0
  clear c0 c1 c2 k0 k1 k2 kk hB1 M1 hB
  generalize w1.setCell ⟨p, 1, none⟩ (.int .i64 ((n : Int) + 1)) = w2 at *
  have f0 := cell_of M2.ptr 0
  simp only [List.getElem?_toArray, List.getElem?_cons_zero] at f0
  have f1 := (held_of_row (HM.out ▸ M2.lists)).cell pre.length _ (by rw [List.getElem?_map, List.getElem?_append_right (Nat.le_refl _), Nat.sub_self]; rfl)
  rw [Nat.zero_add] at f1
  replace f1 : w2.cell? ⟨g, pre.length, none⟩ = some (.slice (some ⟨b, o, none⟩) l.length c) := f1
  obtain ⟨HS, hc⟩ := M2.segs ⟨b, o, c, l⟩ (by simp)
  have hbs : b < w2.heap.size := HS.lt
  have hbw : b < w.heap.size := (M0.out.segs ⟨b, o, c, l⟩ (by simp)).1.lt
  have hbp : p ≠ b := fun e => M2.p_seg (s := ⟨b, o, c, l⟩) (by simp) e.symm
  have hbg : g ≠ b := fun e => M2.g_seg (g := g) rfl (s := ⟨b, o, c, l⟩) (by simp) e.symm
  have hbx : w.heap.size ≠ b := by omega
  have HS := Lib.hid HS
  have h0 := lt_of M2.ptr
  have h1 := (held_of_row (HM.out ▸ M2.lists)).lt
  have M2 := Lib.hid M2
  have hV := Lib.hid hV
  have i2 : (pre.length : Int) < (m : Int) := by omega
  have i3 : (0 : Int) ≤ (pre.length : Int) := by omega
  have SL := Lib.hid (show ∀ W, Below w2.heap.size w2 W → W.cell? ⟨p, 0, none⟩ = some (.slice (some ⟨g, 0, none⟩) m cap) ∧ W.cell? ⟨g, pre.length, none⟩ = some (.slice (some ⟨b, o, none⟩) l.length c) ∧ W.cell? ⟨w.heap.size, 0, none⟩ = some (.int .i64 y) ∧ W.cell? ⟨w.heap.size, 1, none⟩ = some (.string t) from fun W hW =>
          ⟨(hW.cell (p := ⟨p, 0, none⟩) h0).trans f0, (hW.cell (p := ⟨g, pre.length, none⟩) h1).trans f1, (hW.cell (p := ⟨w.heap.size, 0, none⟩) h2).trans f2, (hW.cell (p := ⟨w.heap.size, 1, none⟩) h2).trans f3⟩)
  have SK := Lib.hid (show ∀ W, InReg b o (o + c * 2) w2 W → W.cell? ⟨p, 0, none⟩ = some (.slice (some ⟨g, 0, none⟩) m cap) ∧ W.cell? ⟨g, pre.length, none⟩ = some (.slice (some ⟨b, o, none⟩) l.length c) ∧ W.cell? ⟨w.heap.size, 0, none⟩ = some (.int .i64 y) ∧ W.cell? ⟨w.heap.size, 1, none⟩ = some (.string t) from fun W hW =>
    ⟨(World.cell?_of_block (w := w2) (hW.block _ h0 hbp)).trans f0, (World.cell?_of_block (w := w2) (hW.block _ h1 hbg)).trans f1, (World.cell?_of_block (w := w2) (hW.block _ h2 hbx)).trans f2, (World.cell?_of_block (w := w2) (hW.block _ h2 hbx)).trans f3⟩)
  clear f0 f1 f2 f3
  go_region_held3 (fun w' => w'.cell? ⟨p, 0, none⟩ = some (.slice (some ⟨g, 0, none⟩) m cap) ∧ w'.cell? ⟨g, pre.length, none⟩ = some (.slice (some ⟨b, o, none⟩) l.length c) ∧ w'.cell? ⟨w.heap.size, 0, none⟩ = some (.int .i64 y) ∧ w'.cell? ⟨w.heap.size, 1, none⟩ = some (.string t)) (first | ((with_reducible refine SL.out _ ?_); (with_reducible (repeat' (first | assumption | exact Below.refl _ _ | apply Below.next_alloc | apply Below.drew | (apply Below.next; rotate_left; assumption)))); done) | (refine SK.out _ ?_; exact InReg.trans (InReg.of_below _ _ _ (by (with_reducible (repeat' (first | assumption | exact Below.refl _ _ | apply Below.next_alloc | apply Below.drew | (apply Below.next; rotate_left; assumption)))))) g4) | go_keep)
    (first
      | (go_at_call 27; (with_reducible refine (FINS.out _ _ (by omega) (Held.of_below HS.out (by (repeat' (first | assumption | exact Below.refl _ _ | apply Below.next_alloc | apply Below.drew | (apply Below.next; rotate_left; assumption)))) hbs) (by exact new2d w2 _ _ _) hc).mono ?_); rintro e w3 ⟨b2, o2, c2, rfl, g1, g2, g3, g4, g5⟩))
  have K : InReg b o (o + c * 2) w2 w3 := InReg.trans (InReg.of_below _ _ _ (by (with_reducible (repeat' (first | assumption | exact Below.refl _ _ | apply Below.next_alloc | apply Below.drew | (apply Below.next; rotate_left; assumption)))))) g4
  obtain ⟨d1, d2, d3⟩ := M2.out.during (s := ⟨b, o, c, l⟩) K
  have e0 := cell_of d1 0
  simp only [List.getElem?_toArray, List.getElem?_cons_zero] at e0
  rw [HM.out] at d2
  have hgr := held_of_row d2
  have e1 := hgr.cell pre.length _ (by rw [List.getElem?_map, List.getElem?_append_right (Nat.le_refl _), Nat.sub_self]; rfl)
  have e2 := hgr.free pre.length
  rw [Nat.zero_add] at e1
  have K := Lib.hid K
  have G5 := Lib.hid g5
  have G3 := Lib.hid g3
  clear g3 g4 g5 d1 d2 d3 hgr
  go_wp2
  go_ret
  have hsv : (Value.slice (some ⟨b2, o2, none⟩) (l.length + 1) c2) = (Sg.mk b2 o2 c2 (insE l (y, t))).val := by unfold Sg.val; rw [ins_length]
  have hat : SgAt w3 ⟨b2, o2, c2, insE l (y, t)⟩ := ⟨by
    have := G3.out
    rw [show [Value.int .i64 y, Value.string t] = [.int .i64 ((y, t) : E).1, .string ((y, t) : E).2] from rfl, cellsE_ins l _ (y, t)] at this
    exact this, g2⟩
  obtain ⟨r1, r2⟩ := M2.out.put (s := ⟨b, o, c, l⟩) (s' := ⟨b2, o2, c2, insE l (y, t)⟩) HM.out.symm K.out hat (by
    rcases G5.out with ⟨rfl, rfl, rfl⟩ | ⟨q1, _⟩
    · exact .inl ⟨rfl, Nat.le_refl _, Nat.le_refl _⟩
    · refine .inr (Nat.le_trans ?_ q1)
      simp)
  obtain ⟨t1, t2⟩ := hPut.out ⟨b2, o2, c2, insE l (y, t)⟩ rfl
  have hcount : ((n : Int) + 1) = ((allE (pre ++ ⟨b2, o2, c2, insE l (y, t)⟩ :: post)).length : Int) := by rw [t2, ins_length, HN.out]; omega
  rw [hcount] at r1
  rw [← hsv] at r1 r2
  refine ⟨_, _, ?_, Idx.of_mem r1 t1, ?_, hV.out.trans r2⟩
  · rw [hHas.out, HH.out]; rfl
  · rw [t2]; unfold putE; rw [hHas.out, HH.out]; rfl
end Go.Proofs.Ytncneoggnoiknaa.Du

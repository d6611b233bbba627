/- The walk through Put, where a short list is parted. -/
import Derived.Test.YtncneoggnoiknaaWp
namespace Go.Proofs.Ytncneoggnoiknaa.Du
open Go.RowKit Sp Ut Me
theorem new1d (w : World) (a : Value) (t : TypeId) : Held (w.alloc (.cells #[a] t)).drew t w.heap.size 0 1 [a] := new1 w a t
theorem _root_.Go.Proofs.Ytncneoggnoiknaa.Me.Held.low {w : World} {e : TypeId} {b lo hi hi' : Nat} {xs : List Value} (h : Held w e b lo hi xs) (h1 : hi' ≤ hi) (h2 : lo + xs.length ≤ hi') : Held w e b lo hi' xs := by
  obtain ⟨cur, a1, a2, a3, a4⟩ := h
  exact ⟨cur, a1, by omega, h2, a4⟩
set_option maxHeartbeats 4000000 in
set_option maxRecDepth 100000 in
theorem put_split {w : World} {p : Nat} {v : Value} {pre post : List Sg} {s : Sg} (y : Int) (t : ByteArray) (hI : Idx w p v (pre ++ s :: post)) (hm : (allE (pre ++ s :: post)).length ≤ 1000) (hpl : place (ess (pre ++ s :: post)) (y, t) = pre.length)
    (p1 : ∀ l ∈ ess pre, ∀ x ∈ l, less x (y, t) = true) (p2 : ∀ l ∈ ess post, ∀ x ∈ l, less (y, t) x = true) (hh : hasE s.es (y, t) = false) (h8 : 8 ≤ s.es.length) :
    Calls Try.prog 13 #[.pointer (some ⟨p, 0, none⟩), .agg #[.int .i64 y, .string t]] w (PutQ p v (pre ++ s :: post) (y, t) w) := by
  have FI := Lib.hid (fun W (hB : Below w.heap.size w W) => find_any (w := W) y t (hI.below hB) pre.length (by simp) hpl hm)
  simp only [List.getElem_append_right (Nat.le_refl _), Nat.sub_self, List.getElem_cons_zero, hh] at FI
  obtain ⟨g, cap, cur, rfl, hg, hcs, hnc, hcm, HG⟩ := hI.row (by simp)
  have hlen := all_pos hI.ok
  have hplt := hI.plt
  have hglt := HG.lt
  have hel := es_le (SS := pre ++ s :: post) (s := s) (by simp)
  obtain ⟨m, hmm⟩ : ∃ m, (pre ++ s :: post).length = m := ⟨_, rfl⟩
  obtain ⟨n, hn⟩ : ∃ n, (allE (pre ++ s :: post)).length = n := ⟨_, rfl⟩
  have hip : pre.length < m := by rw [← hmm]; simp
  have hpos : 0 < s.es.length := List.length_pos_iff.2 (es_ne hI.ok (s := s) (by simp))
  have hcl := cnt_le s.es (y, t)
  have hHas := Lib.hid (has_part (s := s) p1 p2)
  have hPut := Lib.hid (fun (s' : Sg) => put_part (s' := s') hI.ok p1 p2 hh)
  have M0 := hI.mem
  obtain ⟨b, o, c, l⟩ := s
  rw [hmm, hn] at M0
  rw [hmm] at hlen hnc ⊢
  rw [hn] at hlen hel hm
  simp only at hh h8 hel hpos hcl
  have M0 := Lib.hid M0
  have HN := Lib.hid hn
  have HM := Lib.hid hmm
  have HH := Lib.hid hh
  have FINS := Lib.hid (fun (W : World) (vb : Nat) (hne : vb ≠ b) (H : Held W 29 b o (o + c * 2) (cellsE l)) (HV : Held W 29 vb 0 2 [.int .i64 y, .string t]) (hc : c ≤ 9223372036854775807) => Ie.ins_any b o l.length c (cntE l (y, t)) vb 1 (cellsE l) [.int .i64 y, .string t] W hcl hpos (by omega) hc hne (cellsE_len l) rfl H HV (cellsE_one l) (by simp [Value.oneCell']))
  clear hI hg hcs HG hpl hn hmm hh
  go_enter Try.func13, Try.ntmps13
  go_wp2_with (go_at_call 26; (with_reducible refine (FI.out _ (by (repeat' (first | assumption | exact Below.refl _ _ | apply Below.next_alloc | apply Below.drew | (apply Below.next; rotate_left; assumption))))).mono ?_); rintro e w1 ⟨rfl, hB1⟩; have hB : Below w.heap.size w w1 := (by (repeat' (first | assumption | exact Below.refl _ _ | apply Below.next_alloc | apply Below.drew | (apply Below.next; rotate_left; assumption)))); have M1 := Lib.hid (M0.out.below hB); have c1 := cell_of M1.out.ptr 1; have c2 := frozen_of M1.out.ptr 1; have c0 := cell_of M1.out.ptr 0; simp only [List.getElem?_toArray, List.getElem?_cons_zero, List.getElem?_cons_succ] at c0 c1)
  obtain ⟨k0, k1, k2⟩ := boxed2 hB1
  have M2 : Mem (w1.setCell ⟨p, 1, none⟩ (.int .i64 ((n : Int) + 1))) p (.slice (some ⟨g, 0, none⟩) m cap) ((n : Int) + 1) (pre ++ ⟨b, o, c, l⟩ :: post) := M1.out.count _
  have hV : Moved (Own p (.slice (some ⟨g, 0, none⟩) m cap) (pre ++ ⟨b, o, c, l⟩ :: post)) (Own p (.slice (some ⟨g, 0, none⟩) m cap) (pre ++ ⟨b, o, c, l⟩ :: post)) w (w1.setCell ⟨p, 1, none⟩ (.int .i64 ((n : Int) + 1))) := (Moved.of_below hB).trans (Moved.setCell ⟨p, 1, none⟩ _ (.inl rfl))
  have hpw : w.heap.size ≠ p := by omega
  have kk : InReg p 1 2 w1 (w1.setCell ⟨p, 1, none⟩ (.int .i64 ((n : Int) + 1))) := InReg.setCell w1 (by omega) (by omega) _
  have f2 : (w1.setCell ⟨p, 1, none⟩ (.int .i64 ((n : Int) + 1))).cell? ⟨w.heap.size, 0, none⟩ = some (.int .i64 y) := (World.cell?_of_block (w := w1) (kk.block w.heap.size k0 hpw)).trans k1
  have f3 : (w1.setCell ⟨p, 1, none⟩ (.int .i64 ((n : Int) + 1))).cell? ⟨w.heap.size, 1, none⟩ = some (.string t) := (World.cell?_of_block (w := w1) (kk.block w.heap.size k0 hpw)).trans k2
  have h2 : w.heap.size < (w1.setCell ⟨p, 1, none⟩ (.int .i64 ((n : Int) + 1))).heap.size := by rw [World.size_setCell]; exact k0
  clear c0 c1 c2 k0 k1 k2 kk hB1 M1 hB
  generalize w1.setCell ⟨p, 1, none⟩ (.int .i64 ((n : Int) + 1)) = w2 at *
  have f0 := cell_of M2.ptr 0
  simp only [List.getElem?_toArray, List.getElem?_cons_zero] at f0
  have f1 := (held_of_row (HM.out ▸ M2.lists)).cell pre.length _ (by rw [List.getElem?_map, List.getElem?_append_right (Nat.le_refl _), Nat.sub_self]; rfl)
  rw [Nat.zero_add] at f1
  replace f1 : w2.cell? ⟨g, pre.length, none⟩ = some (.slice (some ⟨b, o, none⟩) l.length c) := f1
  obtain ⟨HS, hc⟩ := M2.segs ⟨b, o, c, l⟩ (by simp)
  have hbs : b < w2.heap.size := HS.lt
  have hbw : b < w.heap.size := (M0.out.segs ⟨b, o, c, l⟩ (by simp)).1.lt
  have hbp : p ≠ b := fun e => M2.p_seg (s := ⟨b, o, c, l⟩) (by simp) e.symm
  have hbg : g ≠ b := fun e => M2.g_seg (g := g) rfl (s := ⟨b, o, c, l⟩) (by simp) e.symm
  have hbx : w.heap.size ≠ b := by omega
  have HS := Lib.hid HS
  have h0 := lt_of M2.ptr
  have h1 := (held_of_row (HM.out ▸ M2.lists)).lt
  have M2 := Lib.hid M2
  have hV := Lib.hid hV
  have i2 : (pre.length : Int) < (m : Int) := by omega
  have i3 : (0 : Int) ≤ (pre.length : Int) := by omega
  have SL := Lib.hid (show ∀ W, Below w2.heap.size w2 W → W.cell? ⟨p, 0, none⟩ = some (.slice (some ⟨g, 0, none⟩) m cap) ∧ W.cell? ⟨g, pre.length, none⟩ = some (.slice (some ⟨b, o, none⟩) l.length c) ∧ W.cell? ⟨w.heap.size, 0, none⟩ = some (.int .i64 y) ∧ W.cell? ⟨w.heap.size, 1, none⟩ = some (.string t) from fun W hW =>
          ⟨(hW.cell (p := ⟨p, 0, none⟩) h0).trans f0, (hW.cell (p := ⟨g, pre.length, none⟩) h1).trans f1, (hW.cell (p := ⟨w.heap.size, 0, none⟩) h2).trans f2, (hW.cell (p := ⟨w.heap.size, 1, none⟩) h2).trans f3⟩)
  have SK := Lib.hid (show ∀ W, InReg b o (o + c * 2) w2 W → W.cell? ⟨p, 0, none⟩ = some (.slice (some ⟨g, 0, none⟩) m cap) ∧ W.cell? ⟨g, pre.length, none⟩ = some (.slice (some ⟨b, o, none⟩) l.length c) ∧ W.cell? ⟨w.heap.size, 0, none⟩ = some (.int .i64 y) ∧ W.cell? ⟨w.heap.size, 1, none⟩ = some (.string t) from fun W hW =>
    ⟨(World.cell?_of_block (w := w2) (hW.block _ h0 hbp)).trans f0, (World.cell?_of_block (w := w2) (hW.block _ h1 hbg)).trans f1, (World.cell?_of_block (w := w2) (hW.block _ h2 hbx)).trans f2, (World.cell?_of_block (w := w2) (hW.block _ h2 hbx)).trans f3⟩)
  clear f0 f1 f2 f3
  go_region_held3 (fun w' => w'.cell? ⟨p, 0, none⟩ = some (.slice (some ⟨g, 0, none⟩) m cap) ∧ w'.cell? ⟨g, pre.length, none⟩ = some (.slice (some ⟨b, o, none⟩) l.length c) ∧ w'.cell? ⟨w.heap.size, 0, none⟩ = some (.int .i64 y) ∧ w'.cell? ⟨w.heap.size, 1, none⟩ = some (.string t)) (first | ((with_reducible refine SL.out _ ?_); (with_reducible (repeat' (first | assumption | exact Below.refl _ _ | apply Below.next_alloc | apply Below.drew | (apply Below.next; rotate_left; assumption)))); done) | (refine SK.out _ ?_; exact InReg.trans (InReg.of_below _ _ _ (by (with_reducible (repeat' (first | assumption | exact Below.refl _ _ | apply Below.next_alloc | apply Below.drew | (apply Below.next; rotate_left; assumption)))))) g4) | go_keep)
    (first
      | (go_at_call 27; (with_reducible refine (FINS.out _ _ (by omega) (Held.of_below HS.out (by (repeat' (first | assumption | exact Below.refl _ _ | apply Below.next_alloc | apply Below.drew | (apply Below.next; rotate_left; assumption)))) hbs) (by exact new2d w2 _ _ _) hc).mono ?_); rintro e w3 ⟨b2, o2, c2, rfl, g1, g2, g3, g4, g5⟩))
  have K : InReg b o (o + c * 2) w2 w3 := InReg.trans (InReg.of_below _ _ _ (by (with_reducible (repeat' (first | assumption | exact Below.refl _ _ | apply Below.next_alloc | apply Below.drew | (apply Below.next; rotate_left; assumption)))))) g4
  obtain ⟨d1, d2, d3⟩ := M2.out.during (s := ⟨b, o, c, l⟩) K
  have e0 := cell_of d1 0
  simp only [List.getElem?_toArray, List.getElem?_cons_zero] at e0
  rw [HM.out] at d2
  have hgr := held_of_row d2
  have e1 := hgr.cell pre.length _ (by rw [List.getElem?_map, List.getElem?_append_right (Nat.le_refl _), Nat.sub_self]; rfl)
  have e2 := hgr.free pre.length
  rw [Nat.zero_add] at e1
  have K := Lib.hid K
  have G5 := Lib.hid g5
  have G3 := Lib.hid g3
  clear g3 g4 g5 d1 d2 d3 hgr
  go_wp2
  have hsv : (Value.slice (some ⟨b2, o2, none⟩) (l.length + 1) c2) = (Sg.mk b2 o2 c2 (insE l (y, t))).val := by unfold Sg.val; rw [ins_length]
  have hat : SgAt w3 ⟨b2, o2, c2, insE l (y, t)⟩ := ⟨by
    have := G3.out
    rw [show [Value.int .i64 y, Value.string t] = [.int .i64 ((y, t) : E).1, .string ((y, t) : E).2] from rfl, cellsE_ins l _ (y, t)] at this
    exact this, g2⟩
  obtain ⟨r1, r2⟩ := M2.out.put (s := ⟨b, o, c, l⟩) (s' := ⟨b2, o2, c2, insE l (y, t)⟩) HM.out.symm K.out hat (by
    rcases G5.out with ⟨rfl, rfl, rfl⟩ | ⟨q1, _⟩
    · exact .inl ⟨rfl, Nat.le_refl _, Nat.le_refl _⟩
    · refine .inr (Nat.le_trans ?_ q1)
      simp)
  obtain ⟨t1, t2⟩ := hPut.out ⟨b2, o2, c2, insE l (y, t)⟩ rfl
  have hcount : ((n : Int) + 1) = ((allE (pre ++ ⟨b2, o2, c2, insE l (y, t)⟩ :: post)).length : Int) := by rw [t2, ins_length, HN.out]; omega
  have hil := ins_length l (y, t)
  rw [← hsv] at r1 r2
  have HV := Lib.hid (hV.out.trans r2)
  have T2 := Lib.hid t2
  have hHL := Lib.hid (hHas.out.trans HH.out)
  have HCN := Lib.hid hcount
  have hm2 : (pre ++ Sg.mk b2 o2 c2 (insE l (y, t)) :: post).length = m := by rw [← HM.out]; simp
  clear hcount t2 r2 hat hsv K G3 G5 hPut hHas HH hV M2 SL SK FINS FI M0 HS e0 e1 e2 HM HN
  generalize w3.setCell ⟨g, pre.length, none⟩ (.slice (some ⟨b2, o2, none⟩) (l.length + 1) c2) = w4 at *
  obtain ⟨hf, hhf⟩ : ∃ hf : Nat, hf = (l.length + 1) / 2 := ⟨_, rfl⟩
  have hhi : ((l.length : Int) + 1) / 2 = (hf : Int) := by omega
  obtain ⟨nl, hnl⟩ : ∃ nl, l.length + 1 = nl := ⟨_, rfl⟩
  have hni : (l.length : Int) + 1 = (nl : Int) := by omega
  simp only [hhi]
  simp only [hni, hnl]
  rw [hnl] at hil g1
  have q1 : 0 < hf := by omega
  have q2 : hf < nl := by omega
  have q3 : hf ≤ c2 := by omega
  clear hhi hni hhf hpos hcl hel h8
  have R1 := Lib.hid r1
  have HM := Lib.hid hm2
  have HIL := Lib.hid hil
  have e0 := cell_of r1.ptr 0
  simp only [List.getElem?_toArray, List.getElem?_cons_zero] at e0
  have hgr := held_of_row (hm2 ▸ r1.lists)
  have e1 := hgr.cell pre.length _ (by rw [List.getElem?_map, List.getElem?_append_right (Nat.le_refl _), Nat.sub_self]; rfl)
  have e2 := hgr.free pre.length
  rw [Nat.zero_add] at e1
  clear r1 hm2 hil hgr
  go_region
  go_wp2
  obtain ⟨HS4, -⟩ := R1.out.segs ⟨b2, o2, c2, insE l (y, t)⟩ (by simp)
  have htl : ((insE l (y, t)).take hf).length = hf := by rw [List.length_take, HIL.out]; omega
  have hdl : ((insE l (y, t)).drop hf).length = nl - hf := by rw [List.length_drop, HIL.out]
  have hatl : SgAt w4 ⟨b2, o2, hf, (insE l (y, t)).take hf⟩ := ⟨by
    have := HS4.cut (hf * 2) (o2 + hf * 2) (by simp only; omega) (by rw [cellsE_take, cellsE_len, htl]; exact Nat.le_refl _)
    rw [cellsE_take] at this
    exact this, by simp only; omega⟩
  obtain ⟨M5, V5⟩ := R1.out.put (s := ⟨b2, o2, c2, insE l (y, t)⟩) (s' := ⟨b2, o2, hf, (insE l (y, t)).take hf⟩) HM.out.symm (InReg.refl _ _ _ _) hatl (.inl ⟨rfl, Nat.le_refl _, by simp only; omega⟩)
  have hlv : (Sg.mk b2 o2 hf ((insE l (y, t)).take hf)).val = .slice (some ⟨b2, o2, none⟩) hf hf := by unfold Sg.val; simp only; rw [htl]
  rw [hlv] at M5 V5
  have M5 : Mem (w4.setCell ⟨g, pre.length, none⟩ (.slice (some ⟨b2, o2, none⟩) hf hf)).drew p (.slice (some ⟨g, 0, none⟩) m cap) ((n : Int) + 1) ((pre ++ [⟨b2, o2, hf, (insE l (y, t)).take hf⟩]) ++ post) := by rw [List.append_assoc]; exact ⟨M5.ptr, M5.lists, M5.segs, M5.apart⟩
  have V5 : Moved (Own p (.slice (some ⟨g, 0, none⟩) m cap) (pre ++ ⟨b2, o2, c2, insE l (y, t)⟩ :: post)) (Own p (.slice (some ⟨g, 0, none⟩) m cap) ((pre ++ [⟨b2, o2, hf, (insE l (y, t)).take hf⟩]) ++ post)) w4 (w4.setCell ⟨g, pre.length, none⟩ (.slice (some ⟨b2, o2, none⟩) hf hf)).drew := by rw [List.append_assoc]; exact ⟨V5.os, V5.tape, V5.output, V5.size, V5.block, V5.own⟩
  have kk : InReg g pre.length (pre.length + 1) w4 (w4.setCell ⟨g, pre.length, none⟩ (.slice (some ⟨b2, o2, none⟩) hf hf)).drew := (InReg.setCell w4 (Nat.le_refl _) (by omega) _).drew
  have hgb : b2 ≠ g := R1.out.g_seg (g := g) rfl (s := ⟨b2, o2, c2, insE l (y, t)⟩) (by simp)
  have hatr : SgAt (w4.setCell ⟨g, pre.length, none⟩ (.slice (some ⟨b2, o2, none⟩) hf hf)).drew ⟨b2, o2 + hf * 2, nl - hf, (insE l (y, t)).drop hf⟩ := by
    have h1 := (HS4.kept kk (.inl hgb)).drop (hf * 2) (by rw [cellsE_len, HIL.out]; omega)
    rw [cellsE_drop] at h1
    exact ⟨h1.low (by simp only; omega) (by rw [cellsE_len, hdl]; simp only; omega), by simp only; omega⟩
  have hpw := (List.pairwise_cons.1 ((List.pairwise_middle Apart.sym).1 R1.out.apart)).1
  have hapr : ∀ x ∈ (pre ++ [⟨b2, o2, hf, (insE l (y, t)).take hf⟩]) ++ post, Apart ⟨b2, o2 + hf * 2, nl - hf, (insE l (y, t)).drop hf⟩ x := by
    intro x hx
    have hx' : x = ⟨b2, o2, hf, (insE l (y, t)).take hf⟩ ∨ x ∈ pre ++ post := by
      rw [List.mem_append, List.mem_append, List.mem_singleton] at hx
      rcases hx with (hx | hx) | hx
      · exact .inr (List.mem_append_left _ hx)
      · exact .inl hx
      · exact .inr (List.mem_append_right _ hx)
    rcases hx' with rfl | hx'
    · exact .inr (.inr (by simp only; omega))
    · have ha := hpw x hx'
      unfold Apart at ha ⊢
      simp only at ha ⊢
      rcases ha with ha | ha | ha
      · exact .inl ha
      · exact .inr (.inl (by omega))
      · exact .inr (.inr (by omega))
  generalize (w4.setCell ⟨g, pre.length, none⟩ (.slice (some ⟨b2, o2, none⟩) hf hf)).drew = w5 at *
  have hln : ((pre ++ [Sg.mk b2 o2 hf ((insE l (y, t)).take hf)]) ++ post).length = m := by rw [← HM.out]; simp
  have hl5 := M5.lists
  rw [hln] at hl5
  obtain ⟨cur5, x1, x2, x3, x4, -⟩ := own_row hl5
  have hgr := held_of_row hl5
  have hg5 := hgr.lt
  have hrv : (Sg.mk b2 (o2 + hf * 2) (nl - hf) ((insE l (y, t)).drop hf)).val = .slice (some ⟨b2, o2 + hf * 2, none⟩) (nl - hf) (nl - hf) := by unfold Sg.val; simp only; rw [hdl]
  have e0 := cell_of M5.ptr 0
  simp only [List.getElem?_toArray, List.getElem?_cons_zero] at e0
  have FINL : ∀ (W : World) (vb : Nat), vb ≠ g → Held W 43 g 0 (0 + cap * 1) (((pre ++ [Sg.mk b2 o2 hf ((insE l (y, t)).take hf)]) ++ post).map Sg.val) → Held W 43 vb 0 1 [.slice (some ⟨b2, o2 + hf * 2, none⟩) (nl - hf) (nl - hf)] →
      Calls Try.prog 28 #[.slice (some ⟨g, 0, none⟩) m cap, .int .i64 ((pre.length : Int) + 1), .slice (some ⟨vb, 0, none⟩) 1 1] W (Insd 1 43 g 0 cap (m + 1) ((((pre ++ [Sg.mk b2 o2 hf ((insE l (y, t)).take hf)]) ++ post).map Sg.val).take ((pre.length + 1) * 1) ++ [.slice (some ⟨b2, o2 + hf * 2, none⟩) (nl - hf) (nl - hf)] ++ (((pre ++ [Sg.mk b2 o2 hf ((insE l (y, t)).take hf)]) ++ post).map Sg.val).drop ((pre.length + 1) * 1)) W) := fun W vb hne H HV =>
    Il.ins_any g 0 m cap (pre.length + 1) vb 1 _ _ W (by omega) (by omega) (by omega) (by omega) hne (by rw [List.length_map, hln, Nat.mul_one]) rfl H HV (by intro u hu; obtain ⟨z, _, rfl⟩ := List.mem_map.1 hu; rfl) (by intro u hu; rw [List.mem_singleton] at hu; rw [hu]; rfl)
  have FINL := Lib.hid FINL
  have hp5 := lt_of M5.ptr
  have hp6 : p ≠ w5.heap.size := by omega
  have HG5 := Lib.hid hgr
  have M5 := Lib.hid M5
  have V5 := Lib.hid V5
  have HAR := Lib.hid hatr
  have HAP := Lib.hid hapr
  have HRV := Lib.hid hrv
  have HTL := Lib.hid htl
  have HDL := Lib.hid hdl
  have HLN := Lib.hid hln
  have i6 : ¬ (nl = hf) := by omega
  have i7 : hf ≤ nl := by omega
  have i8 : nl ≤ c2 := by omega
  have i9 : IntKind.i64.wrap ((pre.length : Int) + 1) = (pre.length : Int) + 1 := by rw [IntKind.wrap_i64]; omega
  clear hgr x1 x2 x3 cur5 hl5 hrv htl hdl hln hatr hapr hpw kk hlv hatl HS4 e1 e2
  go_region_with (go_at_call 28; (with_reducible refine (FINL.out _ _ (by omega) (Held.of_below HG5.out (by (with_reducible (repeat' (first | assumption | exact Below.refl _ _ | apply Below.next_alloc | apply Below.drew | (apply Below.next; rotate_left; assumption))))) hg5) (by exact new1d w5 _ _)).mono ?_); rintro e w6 ⟨b3, o3, c3, rfl, j1, j2, j3, j4, j5⟩; have K6 : InReg g 0 (0 + cap * 1) w5 w6 := InReg.trans (InReg.of_below _ _ _ (by (with_reducible (repeat' (first | assumption | exact Below.refl _ _ | apply Below.next_alloc | apply Below.drew | (apply Below.next; rotate_left; assumption)))))) j4; obtain ⟨d1, d2⟩ := M5.out.among K6; have e0 := cell_of d1 0; simp only [List.getElem?_toArray, List.getElem?_cons_zero] at e0; have e2 := frozen_of d1 0)
  all_goals
    go_wp2
    go_ret
    have hH : Held w6 43 b3 o3 (o3 + c3 * 1) ((((pre ++ [Sg.mk b2 o2 hf ((insE l (y, t)).take hf)]) ++ post).map Sg.val).take (pre ++ [Sg.mk b2 o2 hf ((insE l (y, t)).take hf)]).length ++ [(Sg.mk b2 (o2 + hf * 2) (nl - hf) ((insE l (y, t)).drop hf)).val] ++ (((pre ++ [Sg.mk b2 o2 hf ((insE l (y, t)).take hf)]) ++ post).map Sg.val).drop (pre ++ [Sg.mk b2 o2 hf ((insE l (y, t)).take hf)]).length) := by
      rw [HRV.out, List.length_append, List.length_singleton]
      rw [Nat.mul_one (pre.length + 1)] at j3
      exact j3
    obtain ⟨z1, z2⟩ := M5.out.more (r := ⟨b2, o2 + hf * 2, nl - hf, (insE l (y, t)).drop hf⟩) HLN.out.symm HAR.out HAP.out K6 hH j1 j2 (by
      rcases j5 with q | ⟨q1, q2, q3⟩
      · exact .inl q
      · refine .inr ⟨Nat.le_trans ?_ q1, q2, q3⟩
        simp) (.inl (.inr (.inr ⟨⟨b2, o2, hf, (insE l (y, t)).take hf⟩, by simp, rfl⟩)))
    obtain ⟨u1, u2⟩ := split_part (l := ⟨b2, o2, hf, (insE l (y, t)).take hf⟩) (r := ⟨b2, o2 + hf * 2, nl - hf, (insE l (y, t)).drop hf⟩) (k := hf) t1 q1 (by simp only; rw [HIL.out]; exact q2) rfl rfl
    have hz := HV.out.trans (V5.out.trans z2)
    rw [HCN.out, ← u2] at z1
    rw [List.append_assoc, List.singleton_append] at z1 hz
    refine ⟨_, _, ?_, Idx.of_mem z1 u1, ?_, hz⟩
    · rw [hHL.out]; rfl
    · rw [u2, T2.out]; unfold putE; rw [hHL.out]; rfl
end Go.Proofs.Ytncneoggnoiknaa.Du

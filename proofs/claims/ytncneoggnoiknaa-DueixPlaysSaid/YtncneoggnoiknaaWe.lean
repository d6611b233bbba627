/- The walk through Drop, where a short list ends. -/
import Derived.Test.YtncneoggnoiknaaWd
namespace Go.Proofs.Ytncneoggnoiknaa.Du
open Go.RowKit Sp Ut Me
set_option maxHeartbeats 4000000 in
set_option maxRecDepth 100000 in
theorem drop_last {w : World} {p : Nat} {v : Value} {pre post : List Sg} {s : Sg} (y : Int) (t : ByteArray) (hI : Idx w p v (pre ++ s :: post)) (hm : (allE (pre ++ s :: post)).length ≤ 1000) (hpl : place (ess (pre ++ s :: post)) (y, t) = pre.length)
    (p1 : ∀ l ∈ ess pre, ∀ x ∈ l, less x (y, t) = true) (p2 : ∀ l ∈ ess post, ∀ x ∈ l, less (y, t) x = true) (hh : hasE s.es (y, t) = true) (hlen1 : s.es.length ≤ 1) :
    Calls Try.prog 15 #[.pointer (some ⟨p, 0, none⟩), .agg #[.int .i64 y, .string t]] w (DropQ p v (pre ++ s :: post) (y, t) w) := by
  have FI := Lib.hid (fun W (hB : Below w.heap.size w W) => find_any (w := W) y t (hI.below hB) pre.length (by simp) hpl hm)
  simp only [List.getElem_append_right (Nat.le_refl _), Nat.sub_self, List.getElem_cons_zero, hh] at FI
  obtain ⟨g, cap, cur, rfl, hg, hcs, hnc, hcm, HG⟩ := hI.row (by simp)
  have hlen := all_pos hI.ok
  have hplt := hI.plt
  have hglt := HG.lt
  have hel := es_le (SS := pre ++ s :: post) (s := s) (by simp)
  obtain ⟨m, hmm⟩ : ∃ m, (pre ++ s :: post).length = m := ⟨_, rfl⟩
  obtain ⟨n, hn⟩ : ∃ n, (allE (pre ++ s :: post)).length = n := ⟨_, rfl⟩
  have hip : pre.length < m := by rw [← hmm]; simp
  have hpos : 0 < s.es.length := List.length_pos_iff.2 (es_ne hI.ok (s := s) (by simp))
  have hcl := cnt_le s.es (y, t)
  have hHas := Lib.hid (has_part (s := s) p1 p2)
  have hEra := Lib.hid (fun (s' : Sg) => era_part (s' := s') hI.ok p1 p2 hh)
  have hsor : Sor s.es := ok_sor hI.ok (by rw [ess_mid]; simp)
  have hcl2 : cntE s.es (y, t) < s.es.length := by
    have := (at_cnt hsor).2 (has_iff.1 hh)
    exact (List.getElem?_eq_some_iff.1 this).1
  have M0 := hI.mem
  obtain ⟨b, o, c, l⟩ := s
  rw [hmm, hn] at M0
  rw [hmm] at hlen hnc ⊢
  rw [hn] at hlen hel hm
  simp only at hh hlen1 hel hpos hcl hcl2
  have M0 := Lib.hid M0
  have HN := Lib.hid hn
  have HM := Lib.hid hmm
  have HH := Lib.hid hh
  have FDEL := Lib.hid (fun (W : World) (H : Held W 29 b o (o + c * 2) (cellsE l)) (hc : c ≤ 9223372036854775807) => De.del_any b o l.length c (cntE l (y, t)) (cellsE l) W hcl2 hc (cellsE_len l) H (cellsE_one l))
  have hle : (eraE l (y, t)).length = l.length - 1 := by unfold eraE; rw [List.length_append, List.length_take, List.length_drop]; omega
  obtain ⟨d, hd⟩ : ∃ d, l.length - 1 = d := ⟨_, rfl⟩
  simp only [hd] at FDEL
  rw [hd] at hle
  have hlD := Lib.hid (show l.length = d + 1 by omega)
  obtain rfl : d = 0 := by omega
  have HLE := Lib.hid hle
  clear hle hd
  have hn1 : (1 : Int) ≤ (n : Int) := by omega
  clear hsor hI hg hcs HG hpl hn hmm hh
  go_enter Try.func15, Try.ntmps15
  go_wp2_with (go_at_call 26; (with_reducible refine (FI.out _ (by (repeat' (first | assumption | exact Below.refl _ _ | apply Below.next_alloc | apply Below.drew | (apply Below.next; rotate_left; assumption))))).mono ?_); rintro e w1 ⟨rfl, hB1⟩; have hB : Below w.heap.size w w1 := (by (repeat' (first | assumption | exact Below.refl _ _ | apply Below.next_alloc | apply Below.drew | (apply Below.next; rotate_left; assumption)))); have M1 := Lib.hid (M0.out.below hB); have c1 := cell_of M1.out.ptr 1; have c2 := frozen_of M1.out.ptr 1; have c0 := cell_of M1.out.ptr 0; simp only [List.getElem?_toArray, List.getElem?_cons_zero, List.getElem?_cons_succ] at c0 c1)
  obtain ⟨k0, k1, k2⟩ := boxed2 hB1
  have M2 : Mem (w1.setCell ⟨p, 1, none⟩ (.int .i64 ((n : Int) - 1))) p (.slice (some ⟨g, 0, none⟩) m cap) ((n : Int) - 1) (pre ++ ⟨b, o, c, l⟩ :: post) := M1.out.count _
  have hV : Moved (Own p (.slice (some ⟨g, 0, none⟩) m cap) (pre ++ ⟨b, o, c, l⟩ :: post)) (Own p (.slice (some ⟨g, 0, none⟩) m cap) (pre ++ ⟨b, o, c, l⟩ :: post)) w (w1.setCell ⟨p, 1, none⟩ (.int .i64 ((n : Int) - 1))) := (Moved.of_below hB).trans (Moved.setCell ⟨p, 1, none⟩ _ (.inl rfl))
  have hpw : w.heap.size ≠ p := by omega
  have kk : InReg p 1 2 w1 (w1.setCell ⟨p, 1, none⟩ (.int .i64 ((n : Int) - 1))) := InReg.setCell w1 (by omega) (by omega) _
  have f2 : (w1.setCell ⟨p, 1, none⟩ (.int .i64 ((n : Int) - 1))).cell? ⟨w.heap.size, 0, none⟩ = some (.int .i64 y) := (World.cell?_of_block (w := w1) (kk.block w.heap.size k0 hpw)).trans k1
  have f3 : (w1.setCell ⟨p, 1, none⟩ (.int .i64 ((n : Int) - 1))).cell? ⟨w.heap.size, 1, none⟩ = some (.string t) := (World.cell?_of_block (w := w1) (kk.block w.heap.size k0 hpw)).trans k2
  have h2 : w.heap.size < (w1.setCell ⟨p, 1, none⟩ (.int .i64 ((n : Int) - 1))).heap.size := by rw [World.size_setCell]; exact k0
  clear c0 c1 c2 k0 k1 k2 kk hB1 M1 hB
  generalize w1.setCell ⟨p, 1, none⟩ (.int .i64 ((n : Int) - 1)) = w2 at *
  have f0 := cell_of M2.ptr 0
  simp only [List.getElem?_toArray, List.getElem?_cons_zero] at f0
  have f1 := (held_of_row (HM.out ▸ M2.lists)).cell pre.length _ (by rw [List.getElem?_map, List.getElem?_append_right (Nat.le_refl _), Nat.sub_self]; rfl)
  rw [Nat.zero_add] at f1
  replace f1 : w2.cell? ⟨g, pre.length, none⟩ = some (.slice (some ⟨b, o, none⟩) l.length c) := f1
  obtain ⟨HS, hc⟩ := M2.segs ⟨b, o, c, l⟩ (by simp)
  have hbs : b < w2.heap.size := HS.lt
  have hbw : b < w.heap.size := (M0.out.segs ⟨b, o, c, l⟩ (by simp)).1.lt
  have hbp : p ≠ b := fun e => M2.p_seg (s := ⟨b, o, c, l⟩) (by simp) e.symm
  have hbg : g ≠ b := fun e => M2.g_seg (g := g) rfl (s := ⟨b, o, c, l⟩) (by simp) e.symm
  have hbx : w.heap.size ≠ b := by omega
  have HS := Lib.hid HS
  have h0 := lt_of M2.ptr
  have h1 := (held_of_row (HM.out ▸ M2.lists)).lt
  have M2 := Lib.hid M2
  have hV := Lib.hid hV
  have i2 : (pre.length : Int) < (m : Int) := by omega
  have i3 : (0 : Int) ≤ (pre.length : Int) := by omega
  have HC := Lib.hid hc
  have hpg : p ≠ g := M2.out.p_g rfl
  have hgp : g ≠ p := hpg.symm
  have i9 : IntKind.i64.wrap ((cntE l (y, t) : Int) + 1) = (cntE l (y, t) : Int) + 1 := by rw [IntKind.wrap_i64]; omega
  clear f2 f3
  go_region_with (go_at_call 29; (with_reducible refine (FDEL.out _ (Held.of_below HS.out (by (with_reducible (repeat' (first | assumption | exact Below.refl _ _ | apply Below.next_alloc | apply Below.drew | (apply Below.next; rotate_left; assumption))))) hbs) HC.out).mono ?_); rintro e w3 ⟨rfl, g3, g4⟩; have K : InReg b o (o + c * 2) w2 w3 := InReg.trans (InReg.of_below _ _ _ (by (with_reducible (repeat' (first | assumption | exact Below.refl _ _ | apply Below.next_alloc | apply Below.drew | (apply Below.next; rotate_left; assumption)))))) g4; obtain ⟨d1, d2, d3⟩ := M2.out.during (s := ⟨b, o, c, l⟩) K; have e0 := cell_of d1 0; simp only [List.getElem?_toArray, List.getElem?_cons_zero] at e0; rw [HM.out] at d2; have hgr := held_of_row d2; have e1 := hgr.cell pre.length _ (by rw [List.getElem?_map, List.getElem?_append_right (Nat.le_refl _), Nat.sub_self]; rfl); have e2 := hgr.free pre.length; rw [Nat.zero_add] at e1)
  all_goals
    have hsv : (Value.slice (some ⟨b, o, none⟩) 0 c) = (Sg.mk b o c (eraE l (y, t))).val := by unfold Sg.val; simp only; rw [HLE.out]
    have hat : SgAt w3 ⟨b, o, c, eraE l (y, t)⟩ := ⟨by
      rw [cellsE_del] at g3
      exact g3, HC.out⟩
    obtain ⟨r1, r2⟩ := M2.out.put (s := ⟨b, o, c, l⟩) (s' := ⟨b, o, c, eraE l (y, t)⟩) HM.out.symm K hat (.inl ⟨rfl, Nat.le_refl _, Nat.le_refl _⟩)
    obtain ⟨t1, t2, t3⟩ := hEra.out ⟨b, o, c, eraE l (y, t)⟩ rfl
    have hcount : ((n : Int) - 1) = ((allE (pre ++ ⟨b, o, c, eraE l (y, t)⟩ :: post)).length : Int) := by
      have h1 : (allE (pre ++ ⟨b, o, c, eraE l (y, t)⟩ :: post)).length + 1 = (allE (pre ++ ⟨b, o, c, l⟩ :: post)).length := by
        unfold allE
        rw [ess_mid, ess_mid]
        simp only [List.flatten_append, List.flatten_cons, List.length_append, HLE.out]
        have := hlD.out
        omega
      have := HN.out
      omega
    rw [← hsv] at r1 r2
    have hz := hV.out.trans r2
    generalize w3.setCell ⟨g, pre.length, none⟩ (.slice (some ⟨b, o, none⟩) 0 c) = w4 at *
    have hm2 : (pre ++ Sg.mk b o c (eraE l (y, t)) :: post).length = m := by rw [← HM.out]; simp
    have hl4 := r1.lists
    rw [hm2] at hl4
    have hgr := held_of_row hl4
    have e0 := cell_of r1.ptr 0
    simp only [List.getElem?_toArray, List.getElem?_cons_zero] at e0
    have e1 := hgr.cell pre.length _ (by rw [List.getElem?_map, List.getElem?_append_right (Nat.le_refl _), Nat.sub_self]; rfl)
    rw [Nat.zero_add] at e1
    have FDL := Lib.hid (Dl.del_any g 0 m cap pre.length _ w4 hip hcm (by rw [List.length_map, hm2, Nat.mul_one]) hgr (by intro u hu; obtain ⟨z, _, rfl⟩ := List.mem_map.1 hu; rfl))
    replace e1 := e1.trans (congrArg some hsv.symm)
    obtain ⟨u1, u2⟩ := t3 (List.length_eq_zero_iff.1 HLE.out)
    have R1 := Lib.hid r1
    have HZ := Lib.hid hz
    have T1 := Lib.hid t1
    have U2 := Lib.hid u2
    have HM2 := Lib.hid hm2
    have HCN := Lib.hid hcount
    have i8 : IntKind.i64.wrap ((pre.length : Int) + 1) = (pre.length : Int) + 1 := by rw [IntKind.wrap_i64]; omega
    clear r1 r2 hz t1 t2 t3 u2 hm2 hl4 hgr hcount hsv hat g3 g4 d1 d2 d3
    go_wp2_with (go_at_call 30; (with_reducible refine FDL.out.mono ?_); rintro e w5 ⟨rfl, j1, j2⟩; obtain ⟨d1, d2⟩ := R1.out.among j2; have e0 := cell_of d1 0; simp only [List.getElem?_toArray, List.getElem?_cons_zero] at e0; have e2 := frozen_of d1 0)
    go_ret
    obtain ⟨z1, z2⟩ := R1.out.less HM2.out.symm j2 j1
    rw [HCN.out, ← U2.out] at z1
    exact ⟨_, _, ret_b (hHas.out.trans HH.out).symm, Idx.of_mem z1 u1, U2.out.trans T1.out, HZ.out.trans z2⟩
end Go.Proofs.Ytncneoggnoiknaa.Du

/- The walk through After. -/
import Derived.Test.YtncneoggnoiknaaWh
namespace Go.Proofs.Ytncneoggnoiknaa.Du
open Go.RowKit Sp Ut Me
/-- the next entry, as it is told -/
def nxtV (o : Option E) : Value := match o with
  | some y => .tuple #[.agg #[.int .i64 y.1, .string y.2], .bool true]
  | none => .tuple #[.agg #[.int .i64 0, .string ByteArray.empty], .bool false]
theorem after_nil (y : Int) (t : ByteArray) (w : World) : Calls Try.prog 16 #[.pointer none, .agg #[.int .i64 y, .string t]] w fun e w' => e = .returned (nxtV none) ∧ Below w.heap.size w w' := by
  go_enter Try.func16, Try.ntmps16
  go_wp2
  refine bodyPost_ret (v := .tuple #[.agg #[.int .i64 0, .string ⟨#[]⟩], .bool false]) (by simp [results, Try.results16, go_sem]) rfl ?_
  exact ⟨rfl, by go_grown⟩
theorem after_none {w : World} {p : Nat} {v : Value} (y : Int) (t : ByteArray) (hI : Idx w p v []) : Calls Try.prog 16 #[.pointer (some ⟨p, 0, none⟩), .agg #[.int .i64 y, .string t]] w fun e w' => e = .returned (nxtV none) ∧ Below w.heap.size w w' := by
  have f0 := cell_of hI.ptr 0
  have h0 := hI.plt
  obtain ⟨-, hl⟩ := hI.lists
  rcases hl with ⟨rfl, -⟩ | ⟨g, cap, cur, rfl, -⟩
  all_goals
    simp only [List.getElem?_toArray, List.getElem?_cons_zero, List.length_nil] at f0
    clear hI
    go_enter Try.func16, Try.ntmps16
    go_wp2
    refine bodyPost_ret (v := .tuple #[.agg #[.int .i64 0, .string ⟨#[]⟩], .bool false]) (by simp [results, Try.results16, go_sem]) rfl ?_
    exact ⟨rfl, by go_grown⟩
theorem find_one (f : E → Bool) (k j : Nat) (R : List Sg) (hk : k < R.length) (hj : j < R[k].es.length) (h1 : ∀ x ∈ allE (R.take k), f x = false) (h2 : ∀ x ∈ R[k].es.take j, f x = false) (h3 : f R[k].es[j] = true) : (allE R).find? f = some R[k].es[j] := by
  have e : R = R.take k ++ R[k] :: R.drop (k + 1) := by rw [← List.drop_eq_getElem_cons hk, List.take_append_drop]
  have e2 : R[k].es = R[k].es.take j ++ R[k].es[j] :: R[k].es.drop (j + 1) := by rw [← List.drop_eq_getElem_cons hj, List.take_append_drop]
  obtain ⟨A, hA⟩ : ∃ A, R[k].es.take j = A := ⟨_, rfl⟩
  obtain ⟨C, hC⟩ : ∃ C, R[k].es.drop (j + 1) = C := ⟨_, rfl⟩
  obtain ⟨b, hb⟩ : ∃ b, R[k].es[j] = b := ⟨_, rfl⟩
  rw [hA, hC, hb] at e2
  rw [hA] at h2
  rw [hb] at h3 ⊢
  have e3 : allE R = (allE (R.take k) ++ A) ++ (b :: (C ++ allE (R.drop (k + 1)))) := by
    conv => lhs; rw [e]
    unfold allE
    rw [ess_mid, List.flatten_append, List.flatten_cons, e2]
    simp
  rw [e3, List.find?_append, List.find?_eq_none.2, List.find?_cons_of_pos h3]
  · rfl
  · intro x hx
    rcases List.mem_append.1 hx with hx | hx
    · rw [h1 x hx]; decide
    · rw [h2 x hx]; decide
set_option maxHeartbeats 4000000 in
set_option maxRecDepth 100000 in
theorem after_any {w : World} {p : Nat} {v : Value} {pre R : List Sg} (y : Int) (t : ByteArray) (hrl : 0 < R.length) (hI : Idx w p v (pre ++ R)) (hm : (allE (pre ++ R)).length ≤ 1000) (hpl : place (ess (pre ++ R)) (y, t) = pre.length) :
    Calls Try.prog 16 #[.pointer (some ⟨p, 0, none⟩), .agg #[.int .i64 y, .string t]] w fun e w' => e = .returned (nxtV ((allE R).find? fun x => less (y, t) x)) ∧ Below w.heap.size w w' := by
  have hne : pre ++ R ≠ [] := by intro h; have := congrArg List.length h; simp only [List.length_append, List.length_nil] at this; omega
  have LA := Lib.hid (fun W (hB : Below w.heap.size w W) => list_any (w := W) y t (hI.below hB) hne hm)
  rw [hpl] at LA
  obtain ⟨g, cap, cur, rfl, hg, hcs, hnc, hcm, HG⟩ := hI.row hne
  have hlen := all_pos hI.ok
  have f0 := cell_of hI.ptr 0
  have h0 := hI.plt
  have h1 := HG.lt
  have HC := Lib.hid HG.cell
  have HI := Lib.hid hI
  simp only [List.getElem?_toArray, List.getElem?_cons_zero] at f0
  obtain ⟨i, hi⟩ : ∃ i, pre.length = i := ⟨_, rfl⟩
  have hmm : (pre ++ R).length = i + R.length := by rw [← hi]; simp
  rw [hmm] at f0 hnc hlen
  rw [hi] at LA
  have HIL := Lib.hid hi
  obtain ⟨n, hn⟩ : ∃ n, R.length = n := ⟨_, rfl⟩
  rw [hn] at f0 hnc hlen hrl
  have HN := Lib.hid hn
  clear hI hg hcs HG hpl hmm hi hn hne
  have i5 : (((i : Int) + (n : Int)) == 0) = false := by rw [beq_eq_false_iff_ne]; omega
  go_enter Try.func16, Try.ntmps16
  go_wp2
  have hB0 : Below w.heap.size w ((w.alloc (.cells #[.int .i64 y, .string t] 29)).alloc (.cells #[.int .i64 0, .string ⟨#[]⟩] 29)) := by (repeat' (first | assumption | exact Below.refl _ _ | apply Below.next_alloc | apply Below.drew | (apply Below.next; rotate_left; assumption)))
  obtain ⟨-, f2, f3⟩ := boxed2 (w := w) (a := .int .i64 y) (b := .string t) (t := 29) (w1 := (w.alloc (.cells #[.int .i64 y, .string t] 29)).alloc (.cells #[.int .i64 0, .string ⟨#[]⟩] 29)) (by (repeat' (first | assumption | exact Below.refl _ _ | apply Below.next_alloc | apply Below.drew | (apply Below.next; rotate_left; assumption))))
  have hz0 : ((w.alloc (.cells #[.int .i64 y, .string t] 29)).alloc (.cells #[.int .i64 0, .string ⟨#[]⟩] 29)).heap.size = w.heap.size + 2 := by rw [World.size_alloc, World.size_alloc]
  have hr0 : ((w.alloc (.cells #[.int .i64 y, .string t] 29)).alloc (.cells #[.int .i64 0, .string ⟨#[]⟩] 29)).heap[w.heap.size + 1]? = some (.cells #[.int .i64 0, .string ⟨#[]⟩] 29 (0, 0)) := by
    have := heap_alloc_new (w.alloc (.cells #[.int .i64 y, .string t] 29)) (.cells #[.int .i64 0, .string ⟨#[]⟩] 29)
    rw [World.size_alloc] at this
    exact this
  generalize (w.alloc (.cells #[.int .i64 y, .string t] 29)).alloc (.cells #[.int .i64 0, .string ⟨#[]⟩] 29) = W0 at *
  replace f0 := (hB0.cell (p := ⟨p, 0, none⟩) h0).trans f0
  replace h0 := Nat.lt_of_lt_of_le h0 hB0.size
  have h2 : w.heap.size < W0.heap.size := by omega
  have HB0 := Lib.hid hB0
  have HZ0 := Lib.hid hz0
  have HR0 := Lib.hid hr0
  have SL := Lib.hid (show ∀ W, Below W0.heap.size W0 W → W.cell? ⟨p, 0, none⟩ = some (.slice (some ⟨g, 0, none⟩) (i + n) cap) ∧ W.cell? ⟨w.heap.size, 0, none⟩ = some (.int .i64 y) ∧ W.cell? ⟨w.heap.size, 1, none⟩ = some (.string t) from fun W hW =>
          ⟨(hW.cell (p := ⟨p, 0, none⟩) h0).trans f0, (hW.cell (p := ⟨w.heap.size, 0, none⟩) h2).trans f2, (hW.cell (p := ⟨w.heap.size, 1, none⟩) h2).trans f3⟩)
  have F2 := Lib.hid f2
  have F3 := Lib.hid f3
  have i6 : ¬ (cap = i) := by omega
  have i7 : (i : Int) ≤ (i : Int) + (n : Int) := by omega
  have i8 : i ≤ i + n := by omega
  have i9 : i ≤ cap := by omega
  clear f0 f2 f3 hB0 hz0 hr0
  go_region_held3 (fun w' => w'.cell? ⟨p, 0, none⟩ = some (.slice (some ⟨g, 0, none⟩) (i + n) cap) ∧ w'.cell? ⟨w.heap.size, 0, none⟩ = some (.int .i64 y) ∧ w'.cell? ⟨w.heap.size, 1, none⟩ = some (.string t)) (first | ((with_reducible refine SL.out _ ?_); (with_reducible (repeat' (first | assumption | exact Below.refl _ _ | apply Below.next_alloc | apply Below.drew | (apply Below.next; rotate_left; assumption)))); done) | go_keep)
    (first
      | (go_at_call 31; (with_reducible refine (LA.out _ (Below.next HB0.out (by (with_reducible (repeat' (first | assumption | exact Below.refl _ _ | apply Below.next_alloc | apply Below.drew | (apply Below.next; rotate_left; assumption))))))).mono ?_); rintro e w2 ⟨rfl, hB2⟩))
  go_wp2
  go_loopw [30] (fun q wr => ∃ k : Nat, k ≤ n ∧ q = .int .i64 k ∧ Hid (∀ x ∈ allE (R.take k), less (y, t) x = false) ∧ Hid (Below W0.heap.size W0 wr)) (fun q _ => n - (intOf q).toNat)
  case atStart => exact ⟨0, by omega, rfl, Lib.hid (fun x hx => by cases hx), Lib.hid (by (repeat' (first | assumption | exact Below.refl _ _ | apply Below.next_alloc | apply Below.drew | (apply Below.next; rotate_left; assumption))))⟩
  case round =>
    obtain ⟨k, hk1, rfl, hlo, hB⟩ := hrel
    have hsz := hB.out.size
    have hr1 := (hB.out.block (w.heap.size + 1) (by have := HZ0.out; omega)).trans HR0.out
    by_cases hk : k < n
    · have hkR : k < R.length := by have := HN.out; omega
      have hkP : i + k < (pre ++ R).length := by have := HIL.out; rw [List.length_append]; omega
      have hgt : (pre ++ R)[i + k] = R[k] := by
        have := HIL.out
        rw [List.getElem_append_right (by omega)]
        congr 1; omega
      have hBw : Below w.heap.size w wr := HB0.out.trans (hB.out.mono HB0.out.size)
      have f1 := (hBw.cell (p := ⟨g, 0 + (i + k), none⟩) h1).trans (HC.out (i + k) _ (map_get (pre ++ R) (i + k) hkP))
      rw [hgt, Nat.zero_add] at f1
      have hmem : R[k] ∈ pre ++ R := List.mem_append_right _ (List.getElem_mem hkR)
      obtain ⟨HS, -⟩ := HI.out.segs _ hmem
      have hel := es_le hmem
      obtain ⟨b, o, c, l, hsg⟩ : ∃ b o c l, R[k] = ⟨b, o, c, l⟩ := ⟨_, _, _, _, rfl⟩
      have HSG := Lib.hid hsg
      rw [hsg] at f1 HS hel
      simp only at f1 HS hel
      have hlt := HS.lt
      have HE := Lib.hid (held_ents HS)
      have HBw := Lib.hid hBw
      clear hsg HS hgt hmem hkP hBw hr1
      go_wp2
      obtain ⟨wo, rfl⟩ : ∃ x, x = wr := ⟨_, rfl⟩
      go_loopw [36] (fun q wr => ∃ j : Nat, j ≤ l.length ∧ q = .int .i64 j ∧ Hid (∀ x ∈ l.take j, less (y, t) x = false) ∧ Hid (Below W0.heap.size W0 wr)) (fun q _ => l.length - (intOf q).toNat)
      case atStart => exact ⟨0, by omega, rfl, Lib.hid (fun x hx => by simp at hx), hB⟩
      case round =>
        obtain ⟨j, hj1, rfl, hlj, hBj⟩ := hrel
        by_cases hj : j < l.length
        · have hBw : Below w.heap.size w wr := HB0.out.trans (hBj.out.mono HB0.out.size)
          obtain ⟨k1, k2⟩ := HE.out j hj
          obtain ⟨x, s, hxs⟩ : ∃ x s, l[j] = (x, s) := ⟨_, _, rfl⟩
          have HXS := Lib.hid hxs
          rw [hxs] at k1 k2
          replace k1 := (hBw.cell (p := ⟨b, o + j * 2, none⟩) hlt).trans k1
          replace k2 := (hBw.cell (p := ⟨b, o + j * 2 + 1, none⟩) hlt).trans k2
          have b1 := (hBj.out.cell (p := ⟨w.heap.size, 0, none⟩) h2).trans F2.out
          have b2 := (hBj.out.cell (p := ⟨w.heap.size, 1, none⟩) h2).trans F3.out
          have hszj := hBj.out.size
          have q3 : w.heap.size < wr.heap.size := by omega
          clear hxs hBw
          cases hl : less (y, t) (x, s)
          · have F := Lib.hid (less_at y x t s _ hl)
            have HL := Lib.hid hl
            clear hl
            go_wp2_with (go_at_call 24; (with_reducible refine (F.out _).mono ?_); rintro e w3 ⟨rfl, hB3⟩)
            go_roundw
            case rel =>
              refine ⟨j + 1, by omega, by go_num, Lib.hid fun z hz => ?_, Lib.hid (Below.next hBj.out (by (repeat' (first | assumption | exact Below.refl _ _ | apply Below.next_alloc | apply Below.drew | (apply Below.next; rotate_left; assumption)))))⟩
              rw [List.take_succ_eq_append_getElem hj, List.mem_append, List.mem_singleton] at hz
              rcases hz with hz | rfl
              · exact hlj.out z hz
              · rw [HXS.out]; exact HL.out
            case measure => simp [intOf]; omega
          · have F := Lib.hid (less_at y x t s _ hl)
            have HL := Lib.hid (find_one (fun z => less (y, t) z) k j R hkR (by rw [HSG.out]; exact hj) hlo.out (by rw [HSG.out]; exact hlj.out) (by simp only [HSG.out, HXS.out]; exact hl))
            clear hl
            have hr3 : Hid (∀ W, Below wr.heap.size wr W → W.heap[w.heap.size + 1]? = some (.cells #[.int .i64 0, .string ⟨#[]⟩] 29 (0, 0))) := fun W hW => (hW.block _ (by have := HZ0.out; omega)).trans ((hBj.out.block (w.heap.size + 1) (by have := HZ0.out; omega)).trans HR0.out)
            go_wp2_with (go_at_call 24; (with_reducible refine (F.out _).mono ?_); rintro e w3 ⟨rfl, hB3⟩; obtain ⟨-, c0, c1⟩ := boxed2 hB3; have hh3 := hr3.out w3 (by (repeat' (first | assumption | exact Below.refl _ _ | apply Below.next_alloc | apply Below.drew | (apply Below.next; rotate_left; assumption)))); have d0 := cell_of hh3 0; have d1 := cell_of hh3 1; have d2 := frozen_of hh3 0; have d3 := frozen_of hh3 1; simp only [List.getElem?_toArray, List.getElem?_cons_zero, List.getElem?_cons_succ] at d0 d1; clear hh3)
            refine bodyPost_ret (v := .tuple #[.agg #[.int .i64 x, .string s], .bool true]) (by simp [results, Try.results16, go_sem, d0, d1]) rfl ?_
            have hBz : Below w.heap.size w w3 := Below.next HB0.out (Below.next hBj.out (by (repeat' (first | assumption | exact Below.refl _ _ | apply Below.next_alloc | apply Below.drew | (apply Below.next; rotate_left; assumption)))))
            have hl := HL.out
            simp only [HSG.out, HXS.out] at hl
            exact ⟨by rw [hl]; rfl, (hBz.setCell (p := ⟨w.heap.size + 1, 0, none⟩) (Nat.le_succ _) _).setCell (p := ⟨w.heap.size + 1, 1, none⟩) (Nat.le_succ _) _⟩
        · obtain rfl : j = l.length := by omega
          go_wp2
          go_roundw
          case rel =>
            refine ⟨k + 1, by omega, by go_num, Lib.hid fun z hz => ?_, hBj⟩
            rw [all_take R k hkR, HSG.out, List.mem_append] at hz
            rcases hz with hz | hz
            · exact hlo.out z hz
            · exact hlj.out z (by rw [List.take_length]; exact hz)
          case measure => simp [intOf]; omega
    · obtain rfl : k = n := by omega
      have d0 := cell_of hr1 0
      have d1 := cell_of hr1 1
      have d2 := frozen_of hr1 0
      have d3 := frozen_of hr1 1
      simp only [List.getElem?_toArray, List.getElem?_cons_zero, List.getElem?_cons_succ] at d0 d1
      have HL := Lib.hid (show (allE R).find? (fun z => less (y, t) z) = none from List.find?_eq_none.2 fun z hz => by
        rw [hlo.out z (by rw [List.take_of_length_le (by have := HN.out; omega)]; exact hz)]; decide)
      clear hr1
      go_wp2
      refine bodyPost_ret (v := .tuple #[.agg #[.int .i64 0, .string ⟨#[]⟩], .bool false]) (by simp [results, Try.results16, go_sem, d0, d1]) rfl ?_
      have hBz : Below w.heap.size w wr := Below.next HB0.out hB.out
      exact ⟨by rw [HL.out]; rfl, (hBz.setCell (p := ⟨w.heap.size + 1, 0, none⟩) (Nat.le_succ _) _).setCell (p := ⟨w.heap.size + 1, 1, none⟩) (Nat.le_succ _) _⟩
theorem next_any {w : World} {p : Nat} {v : Value} {SS : List Sg} (y : Int) (t : ByteArray) (hI : Idx w p v SS) (hm : (allE SS).length ≤ 1000) :
    Calls Try.prog 16 #[.pointer (some ⟨p, 0, none⟩), .agg #[.int .i64 y, .string t]] w fun e w' => e = .returned (nxtV ((allE SS).find? fun x => less (y, t) x)) ∧ Below w.heap.size w w' := by
  by_cases hne : SS = []
  · subst hne
    exact after_none y t hI
  · obtain ⟨pre, s, post, rfl, hpl, h1, h2⟩ := parts hI.ok hne (y, t)
    have h := after_any (R := s :: post) y t (by simp) hI hm hpl
    have e : (allE (pre ++ s :: post)).find? (fun x => less (y, t) x) = (allE (s :: post)).find? (fun x => less (y, t) x) := by
      unfold allE
      rw [ess_mid]
      exact after_place h1
    rw [e]; exact h
end Go.Proofs.Ytncneoggnoiknaa.Du

/- The walks through the reference's After and Put. -/
import Derived.Test.YtncneoggnoiknaaWk
namespace Go.Proofs.Ytncneoggnoiknaa.Du
open Go.RowKit Sp Ut Me
theorem rless_at (x y : Int) (s t : ByteArray) (q : Bool) (h : less (x, s) (y, t) = q) (W : World) : Calls Try.prog 25 #[.agg #[.int .i64 x, .string s], .agg #[.int .i64 y, .string t]] W fun e w' => e = .returned (.bool q) ∧ Below W.heap.size W w' := by
  rw [← h]; exact rless_any (x, s) (y, t) W
theorem find_at (f : E → Bool) (l : List E) (k : Nat) (hk : k < l.length) (h1 : ∀ x ∈ l.take k, f x = false) (h2 : f l[k] = true) : l.find? f = some l[k] := by
  obtain ⟨A, hA⟩ : ∃ A, l.take k = A := ⟨_, rfl⟩
  obtain ⟨C, hC⟩ : ∃ C, l.drop (k + 1) = C := ⟨_, rfl⟩
  obtain ⟨b, hb⟩ : ∃ b, l[k] = b := ⟨_, rfl⟩
  have e : l = A ++ b :: C := by rw [← hA, ← hC, ← hb, ← List.drop_eq_getElem_cons hk, List.take_append_drop]
  rw [hA] at h1
  rw [hb] at h2 ⊢
  rw [e, List.find?_append, List.find?_eq_none.2, List.find?_cons_of_pos h2]
  · rfl
  · intro x hx; rw [h1 x hx]; decide
set_option maxHeartbeats 4000000 in
set_option maxRecDepth 100000 in
theorem rafter_any {w : World} {v : Value} {l : List E} (y : Int) (t : ByteArray) (hl : Ents w v l) (hn : l.length ≤ 1000) :
    Calls Try.prog 17 #[v, .agg #[.int .i64 y, .string t]] w fun e w' => e = .returned (nxtV (l.find? fun x => less (y, t) x)) ∧ Below w.heap.size w w' := by
  rcases hl with ⟨rfl, a0, cap, rfl, ha⟩ | ⟨h0, b, o, cap, rfl, hlt, hcap, hcell⟩
  · go_enter Try.func17, Try.ntmps17
    go_wp2
    go_rounds 1
    refine bodyPost_ret (v := .tuple #[.agg #[.int .i64 0, .string ⟨#[]⟩], .bool false]) (by simp [results, Try.results17, go_sem]) rfl ?_
    exact ⟨rfl, by go_grown⟩
  · have HC := Lib.hid hcell
    clear hcell
    go_enter Try.func17, Try.ntmps17
    go_wp2
    have hB0 : Below w.heap.size w ((w.alloc (.cells #[.int .i64 y, .string t] 30)).alloc (.cells #[.int .i64 0, .string ⟨#[]⟩] 30)) := by (repeat' (first | assumption | exact Below.refl _ _ | apply Below.next_alloc | apply Below.drew | (apply Below.next; rotate_left; assumption)))
    obtain ⟨-, f2, f3⟩ := boxed2 (w := w) (a := .int .i64 y) (b := .string t) (t := 30) (w1 := (w.alloc (.cells #[.int .i64 y, .string t] 30)).alloc (.cells #[.int .i64 0, .string ⟨#[]⟩] 30)) (by (repeat' (first | assumption | exact Below.refl _ _ | apply Below.next_alloc | apply Below.drew | (apply Below.next; rotate_left; assumption))))
    have hz0 : ((w.alloc (.cells #[.int .i64 y, .string t] 30)).alloc (.cells #[.int .i64 0, .string ⟨#[]⟩] 30)).heap.size = w.heap.size + 2 := by rw [World.size_alloc, World.size_alloc]
    have hr0 : ((w.alloc (.cells #[.int .i64 y, .string t] 30)).alloc (.cells #[.int .i64 0, .string ⟨#[]⟩] 30)).heap[w.heap.size + 1]? = some (.cells #[.int .i64 0, .string ⟨#[]⟩] 30 (0, 0)) := by
      have := heap_alloc_new (w.alloc (.cells #[.int .i64 y, .string t] 30)) (.cells #[.int .i64 0, .string ⟨#[]⟩] 30)
      rw [World.size_alloc] at this
      exact this
    generalize (w.alloc (.cells #[.int .i64 y, .string t] 30)).alloc (.cells #[.int .i64 0, .string ⟨#[]⟩] 30) = W0 at *
    have h2 : w.heap.size < W0.heap.size := by omega
    have HB0 := Lib.hid hB0
    have HZ0 := Lib.hid hz0
    have HR0 := Lib.hid hr0
    have F2 := Lib.hid f2
    have F3 := Lib.hid f3
    clear f2 f3 hB0 hz0 hr0
    go_loopw [6] (fun q wr => ∃ k : Nat, k ≤ l.length ∧ q = .int .i64 k ∧ Hid (∀ x ∈ l.take k, less (y, t) x = false) ∧ Hid (Below W0.heap.size W0 wr)) (fun q _ => l.length - (intOf q).toNat)
    case atStart => exact ⟨0, by omega, rfl, Lib.hid (fun x hx => by simp at hx), Lib.hid (Below.refl _ _)⟩
    case round =>
      obtain ⟨k, hk1, rfl, hlo, hB⟩ := hrel
      have hBw : Below w.heap.size w wr := HB0.out.trans (hB.out.mono HB0.out.size)
      have b1 := (hB.out.cell (p := ⟨w.heap.size, 0, none⟩) h2).trans F2.out
      have b2 := (hB.out.cell (p := ⟨w.heap.size, 1, none⟩) h2).trans F3.out
      have hsz := hB.out.size
      have q3 : w.heap.size < wr.heap.size := by omega
      have hlt2 : b < wr.heap.size := by have := hBw.size; omega
      have hr3 : Hid (∀ W, Below wr.heap.size wr W → W.heap[w.heap.size + 1]? = some (.cells #[.int .i64 0, .string ⟨#[]⟩] 30 (0, 0))) := fun W hW => (hW.block _ (by have := HZ0.out; omega)).trans ((hB.out.block (w.heap.size + 1) (by have := HZ0.out; omega)).trans HR0.out)
      by_cases hk : k < l.length
      · obtain ⟨c1, c2⟩ := HC.out k hk
        have c1 := (hBw.cell (p := ⟨b, o + k * 2, none⟩) hlt).trans c1
        have c2 := (hBw.cell (p := ⟨b, o + k * 2 + 1, none⟩) hlt).trans c2
        have i2 : (k : Int) < (l.length : Int) := by omega
        have i3 : (0 : Int) ≤ (k : Int) := by omega
        obtain ⟨x, s, hxs⟩ : ∃ x s, l[k] = (x, s) := ⟨_, _, rfl⟩
        rw [hxs] at c1 c2
        have HXS := Lib.hid hxs
        clear hxs
        have SL := Lib.hid (show ∀ W, Below wr.heap.size wr W → W.cell? ⟨w.heap.size, 0, none⟩ = some (.int .i64 y) ∧ W.cell? ⟨w.heap.size, 1, none⟩ = some (.string t) ∧ W.cell? ⟨b, o + k * 2, none⟩ = some (.int .i64 x) ∧ W.cell? ⟨b, o + k * 2 + 1, none⟩ = some (.string s) from fun W hW =>
          ⟨(hW.cell (p := ⟨w.heap.size, 0, none⟩) q3).trans b1, (hW.cell (p := ⟨w.heap.size, 1, none⟩) q3).trans b2, (hW.cell (p := ⟨b, o + k * 2, none⟩) hlt2).trans c1, (hW.cell (p := ⟨b, o + k * 2 + 1, none⟩) hlt2).trans c2⟩)
        have HBW := Lib.hid hBw
        clear hBw
        cases hl : less (y, t) (x, s)
        · have F := Lib.hid (rless_at y x t s _ hl)
          have HL := Lib.hid hl
          clear hl b1 b2 c1 c2
          go_wp2
          go_region_held3 (fun w' => w'.cell? ⟨w.heap.size, 0, none⟩ = some (.int .i64 y) ∧ w'.cell? ⟨w.heap.size, 1, none⟩ = some (.string t) ∧ w'.cell? ⟨b, o + k * 2, none⟩ = some (.int .i64 x) ∧ w'.cell? ⟨b, o + k * 2 + 1, none⟩ = some (.string s)) (first | ((with_reducible refine SL.out _ ?_); (with_reducible (repeat' (first | assumption | exact Below.refl _ _ | apply Below.next_alloc | apply Below.drew | (apply Below.next; rotate_left; assumption)))); done) | go_keep)
            (first
              | (go_at_call 25; (with_reducible refine (F.out _).mono ?_); rintro e w3 ⟨rfl, hB3⟩))
          go_wp2
          go_roundw
          case rel =>
            refine ⟨k + 1, by omega, by go_num, Lib.hid fun z hz => ?_, Lib.hid (Below.next hB.out (by (repeat' (first | assumption | exact Below.refl _ _ | apply Below.next_alloc | apply Below.drew | (apply Below.next; rotate_left; assumption)))))⟩
            rw [List.take_succ_eq_append_getElem hk, List.mem_append, List.mem_singleton] at hz
            rcases hz with hz | rfl
            · exact hlo.out z hz
            · rw [HXS.out]; exact HL.out
          case measure => simp [intOf]; omega
        · have F := Lib.hid (rless_at y x t s _ hl)
          have HL := Lib.hid (find_at (fun z => less (y, t) z) l k hk hlo.out (by simp only [HXS.out]; exact hl))
          clear hl b1 b2 c1 c2
          go_wp2
          go_region_held3 (fun w' => w'.cell? ⟨w.heap.size, 0, none⟩ = some (.int .i64 y) ∧ w'.cell? ⟨w.heap.size, 1, none⟩ = some (.string t) ∧ w'.cell? ⟨b, o + k * 2, none⟩ = some (.int .i64 x) ∧ w'.cell? ⟨b, o + k * 2 + 1, none⟩ = some (.string s)) (first | ((with_reducible refine SL.out _ ?_); (with_reducible (repeat' (first | assumption | exact Below.refl _ _ | apply Below.next_alloc | apply Below.drew | (apply Below.next; rotate_left; assumption)))); done) | go_keep)
            (first
              | (go_at_call 25; (with_reducible refine (F.out _).mono ?_); rintro e w3 ⟨rfl, hB3⟩))
          obtain ⟨-, -, c1, c2⟩ := SL.out w3 (by (repeat' (first | assumption | exact Below.refl _ _ | apply Below.next_alloc | apply Below.drew | (apply Below.next; rotate_left; assumption))))
          have hh3 := hr3.out w3 (by (repeat' (first | assumption | exact Below.refl _ _ | apply Below.next_alloc | apply Below.drew | (apply Below.next; rotate_left; assumption))))
          have d0 := cell_of hh3 0
          have d1 := cell_of hh3 1
          have d2 := frozen_of hh3 0
          have d3 := frozen_of hh3 1
          simp only [List.getElem?_toArray, List.getElem?_cons_zero, List.getElem?_cons_succ] at d0 d1
          have hBz : Below w.heap.size w w3 := Below.next HBW.out (by (repeat' (first | assumption | exact Below.refl _ _ | apply Below.next_alloc | apply Below.drew | (apply Below.next; rotate_left; assumption))))
          have HBZ := Lib.hid hBz
          clear hh3 hBz
          go_wp2
          refine bodyPost_ret (v := .tuple #[.agg #[.int .i64 x, .string s], .bool true]) (by simp [results, Try.results17, go_sem, d0, d1]) rfl ?_
          have hl := HL.out
          simp only [HXS.out] at hl
          exact ⟨by rw [hl]; rfl, (HBZ.out.setCell (p := ⟨w.heap.size + 1, 0, none⟩) (Nat.le_succ _) _).setCell (p := ⟨w.heap.size + 1, 1, none⟩) (Nat.le_succ _) _⟩
      · obtain rfl : k = l.length := by omega
        have hh3 := hr3.out wr (Below.refl _ _)
        have d0 := cell_of hh3 0
        have d1 := cell_of hh3 1
        have d2 := frozen_of hh3 0
        have d3 := frozen_of hh3 1
        simp only [List.getElem?_toArray, List.getElem?_cons_zero, List.getElem?_cons_succ] at d0 d1
        have HL := Lib.hid (show l.find? (fun z => less (y, t) z) = none from List.find?_eq_none.2 fun z hz => by
          rw [hlo.out z (by rw [List.take_length]; exact hz)]; decide)
        have HBW := Lib.hid hBw
        clear hBw hh3
        go_wp2
        refine bodyPost_ret (v := .tuple #[.agg #[.int .i64 0, .string ⟨#[]⟩], .bool false]) (by simp [results, Try.results17, go_sem, d0, d1]) rfl ?_
        exact ⟨by rw [HL.out]; rfl, (HBW.out.setCell (p := ⟨w.heap.size + 1, 0, none⟩) (Nat.le_succ _) _).setCell (p := ⟨w.heap.size + 1, 1, none⟩) (Nat.le_succ _) _⟩
end Go.Proofs.Ytncneoggnoiknaa.Du

/- The walk through awake. -/
import Derived.Test.YtncneoggnoiknaaAw
namespace Go.Proofs.Ytncneoggnoiknaa.Du
open Go.RowKit Sp Ut Me
theorem f0 : ((!hasE ([] : List E) (5, ⟨#[98]⟩)) = true) ∧ putE ([] : List E) (5, ⟨#[98]⟩) = [(5, ⟨#[98]⟩)] := by decide +kernel
theorem f1 : ((!hasE ([(5, ⟨#[98]⟩)] : List E) (5, ⟨#[97]⟩)) = true) ∧ putE ([(5, ⟨#[98]⟩)] : List E) (5, ⟨#[97]⟩) = [(5, ⟨#[97]⟩), (5, ⟨#[98]⟩)] := by decide +kernel
theorem f2 : ((!hasE ([(5, ⟨#[97]⟩), (5, ⟨#[98]⟩)] : List E) (3, ⟨#[122]⟩)) = true) ∧ putE ([(5, ⟨#[97]⟩), (5, ⟨#[98]⟩)] : List E) (3, ⟨#[122]⟩) = [(3, ⟨#[122]⟩), (5, ⟨#[97]⟩), (5, ⟨#[98]⟩)] := by decide +kernel
theorem f3 : ((!hasE ([(3, ⟨#[122]⟩), (5, ⟨#[97]⟩), (5, ⟨#[98]⟩)] : List E) (5, ⟨#[97]⟩)) = false) ∧ putE ([(3, ⟨#[122]⟩), (5, ⟨#[97]⟩), (5, ⟨#[98]⟩)] : List E) (5, ⟨#[97]⟩) = [(3, ⟨#[122]⟩), (5, ⟨#[97]⟩), (5, ⟨#[98]⟩)] := by decide +kernel
theorem f4 : (hasE ([(3, ⟨#[122]⟩), (5, ⟨#[97]⟩), (5, ⟨#[98]⟩)] : List E) (5, ⟨#[97]⟩) = true) ∧ eraF ([(3, ⟨#[122]⟩), (5, ⟨#[97]⟩), (5, ⟨#[98]⟩)] : List E) (5, ⟨#[97]⟩) = [(3, ⟨#[122]⟩), (5, ⟨#[98]⟩)] := by decide +kernel
theorem f5 : (hasE ([(3, ⟨#[122]⟩), (5, ⟨#[98]⟩)] : List E) (5, ⟨#[97]⟩) = false) ∧ eraF ([(3, ⟨#[122]⟩), (5, ⟨#[98]⟩)] : List E) (5, ⟨#[97]⟩) = [(3, ⟨#[122]⟩), (5, ⟨#[98]⟩)] := by decide +kernel
theorem fN : nxtV (([(3, ⟨#[122]⟩), (5, ⟨#[97]⟩), (5, ⟨#[98]⟩)] : List E).find? fun x => less (4, ⟨#[]⟩) x) = .tuple #[.agg #[.int .i64 5, .string ⟨#[97]⟩], .bool true] := by
  have h : ([(3, ⟨#[122]⟩), (5, ⟨#[97]⟩), (5, ⟨#[98]⟩)] : List E).find? (fun x => less (4, ⟨#[]⟩) x) = some (5, ⟨#[97]⟩) := by decide +kernel
  rw [h]; rfl
theorem fB : (btw 0 5 ([(3, ⟨#[122]⟩), (5, ⟨#[98]⟩)] : List E)).length = 1 := by decide +kernel
theorem fH : hasE ([(3, ⟨#[122]⟩), (5, ⟨#[98]⟩)] : List E) (3, ⟨#[122]⟩) = true := by decide +kernel
theorem fL : less (3, ⟨#[]⟩) (5, ⟨#[97]⟩) = true := by decide +kernel
theorem fS : sameE ([(3, ⟨#[122]⟩), (5, ⟨#[97]⟩), (5, ⟨#[98]⟩)] : List E) [(3, ⟨#[122]⟩), (5, ⟨#[97]⟩), (5, ⟨#[98]⟩)] = true := by decide +kernel
/-- three entries in a row of their own -/
theorem ents3 (w : World) (x1 x2 x3 : Int) (s1 s2 s3 : ByteArray) (T : TypeId) (H : Nat) (hH : H = w.heap.size) : Ents (w.alloc (.cells #[.int .i64 x1, .string s1, .int .i64 x2, .string s2, .int .i64 x3, .string s3] T)) (.slice (some ⟨H, 0, none⟩) 3 3) [(x1, s1), (x2, s2), (x3, s3)] := by
  subst hH
  have hb := heap_alloc_new w (.cells #[.int .i64 x1, .string s1, .int .i64 x2, .string s2, .int .i64 x3, .string s3] T)
  refine .inr ⟨by simp, w.heap.size, 0, 3, rfl, by simp, by simp, fun k hk => ?_⟩
  rw [cell_of hb, cell_of hb]
  have hk' : k = 0 ∨ k = 1 ∨ k = 2 := by simp only [List.length_cons, List.length_nil] at hk; omega
  rcases hk' with rfl | rfl | rfl <;> exact ⟨rfl, rfl⟩
theorem same3 {w : World} {v v' : Value} (hl : Ents w v [(3, ⟨#[122]⟩), (5, ⟨#[97]⟩), (5, ⟨#[98]⟩)]) (hm : Ents w v' [(3, ⟨#[122]⟩), (5, ⟨#[97]⟩), (5, ⟨#[98]⟩)]) : Calls Try.prog 18 #[v, v'] w fun e w' => e = .returned (.bool true) ∧ Below w.heap.size w w' := by
  have := rsame_any hl hm (by simp) (by simp)
  rw [fS] at this
  exact this
theorem two_of {w w1 : World} {a b : Value} {t : TypeId} (h : Below (w.alloc (.cells #[a, b] t)).heap.size (w.alloc (.cells #[a, b] t)) w1) : w1.heap[w.heap.size]? = some (.cells #[a, b] t (0, 0)) :=
  (h.block w.heap.size (by rw [World.size_alloc]; exact Nat.lt_succ_self _)).trans (heap_alloc_new w _)
set_option maxHeartbeats 8000000 in
set_option maxRecDepth 100000 in
theorem awake_any (w : World) : Calls Try.prog 8 #[] w fun e w' => e = .returned (.bool true) ∧ Below w.heap.size w w' := by
  go_enter Try.func8, Try.ntmps8
  go_wp2_with (first
    | (go_at_call 9; (with_reducible refine (newH _).mono ?_); rintro e w0 ⟨p, O0, rfl, hI0, hO0, hB0⟩; have C0 := Lib.hid (putH 5 ⟨#[98]⟩ _ _ hI0 (by simp) f0.1 f0.2); have H0 := Lib.hid (And.intro hO0 hB0); clear hI0 hO0 hB0)
    | (go_at_call 13; (with_reducible refine C0.out.mono ?_); rintro e w1 ⟨rfl, O1, hI1, hV1⟩; have C1 := Lib.hid (putH 5 ⟨#[97]⟩ _ _ hI1 (by simp) f1.1 f1.2); have H1 := Lib.hid (And.intro (hV1.above H0.out.1 H0.out.2.size) (H0.out.2.trans (hV1.below H0.out.1 H0.out.2.size))); clear C0 H0 hI1 hV1)
    | (go_at_call 13; (with_reducible refine C1.out.mono ?_); rintro e w2 ⟨rfl, O2, hI2, hV2⟩; have C2 := Lib.hid (putH 3 ⟨#[122]⟩ _ _ hI2 (by simp) f2.1 f2.2); have H2 := Lib.hid (And.intro (hV2.above H1.out.1 H1.out.2.size) (H1.out.2.trans (hV2.below H1.out.1 H1.out.2.size))); clear C1 H1 hI2 hV2)
    | (go_at_call 13; (with_reducible refine C2.out.mono ?_); rintro e w3 ⟨rfl, O3, hI3, hV3⟩; have C3 := Lib.hid (putH 5 ⟨#[97]⟩ _ _ hI3 (by simp) f3.1 f3.2); have H3 := Lib.hid (And.intro (hV3.above H2.out.1 H2.out.2.size) (H2.out.2.trans (hV3.below H2.out.1 H2.out.2.size))); clear C2 H2 hI3 hV3)
    | (go_at_call 13; (with_reducible refine C3.out.mono ?_); rintro e w4 ⟨rfl, O4, hI4, hV4⟩; have C4 := Lib.hid (nextH 4 ⟨#[]⟩ _ hI4 (by simp) fN); have H4 := Lib.hid (And.intro (hV4.above H3.out.1 H3.out.2.size) (H3.out.2.trans (hV4.below H3.out.1 H3.out.2.size))); have I4 := Lib.hid hI4; clear C3 H3 hI4 hV4)
    | (go_at_call 16; (with_reducible refine C4.out.mono ?_); rintro e w5 ⟨rfl, hB5⟩; have I5 := Lib.hid (I4.out.below hB5); have H5 := Lib.hid (And.intro H4.out.1 (Below.next H4.out.2 hB5)); have CA := Lib.hid (fun W (hB : Below w5.heap.size w5 W) => allH (I5.out.below hB) (by simp)); have EQ := fun W => eqD_is (x := 5) (y := 5) (s := ⟨#[97]⟩) (t := ⟨#[97]⟩) (q := true) (by decide +kernel) W; have hnO := Lib.hid (fun h => Nat.lt_irrefl _ (I5.out.lt w5.heap.size h)); clear C4 H4 I4 hB5)
    | (go_at_call 23; (with_reducible refine (CA.out _ (by (repeat' (first | assumption | exact Below.refl _ _ | apply Below.next_alloc | apply Below.drew | (apply Below.next; rotate_left; assumption))))).mono ?_); rintro e w6 ⟨va, rfl, ho6, hB6⟩; have CB := Lib.hid (back_any ho6.ents (by simp)); clear CA ho6)
    | (go_at_call 19; (with_reducible refine CB.out.mono ?_); rintro e w7 ⟨vb, rfl, ho7, hB7⟩; have CS := Lib.hid (fun W vc (hB : Below w7.heap.size w7 W) (hc : Ents W vc [(3, ⟨#[122]⟩), (5, ⟨#[97]⟩), (5, ⟨#[98]⟩)]) => same3 (ho7.ents.below hB) hc); clear CB ho7)
    | (go_at_call 18; (with_reducible refine (CS.out _ _ (by (repeat' (first | assumption | exact Below.refl _ _ | apply Below.next_alloc | apply Below.drew | (apply Below.next; rotate_left; assumption)))) (by exact ents3 _ _ _ _ _ _ _ _ _ (by simp))).mono ?_); rintro e w8 ⟨rfl, hB8⟩; clear CS; have hb8 : Below (w5.alloc (.cells #[.int .i64 5, .string ⟨#[97]⟩] 29)).heap.size (w5.alloc (.cells #[.int .i64 5, .string ⟨#[97]⟩] 29)) w8 := (by (repeat' (first | assumption | exact Below.refl _ _ | apply Below.next_alloc | apply Below.drew | (apply Below.next; rotate_left; assumption)))); obtain ⟨hz8, g0, g1⟩ := boxed2 hb8; have hk8 := Lib.hid (two_of hb8); have C5 := Lib.hid (dropH 5 ⟨#[97]⟩ _ _ (I5.out.below (show Below w5.heap.size w5 w8 from by (repeat' (first | assumption | exact Below.refl _ _ | apply Below.next_alloc | apply Below.drew | (apply Below.next; rotate_left; assumption))))) (by simp) f4.1 f4.2); have H8 := Lib.hid (And.intro H5.out.1 (Below.next H5.out.2 (show Below w5.heap.size w5 w8 from by (repeat' (first | assumption | exact Below.refl _ _ | apply Below.next_alloc | apply Below.drew | (apply Below.next; rotate_left; assumption)))))); clear hb8 H5 I5)
    | (go_at_call 15; (with_reducible refine C5.out.mono ?_); rintro e w9 ⟨rfl, O5, hI9, hV9⟩; have C6 := Lib.hid (dropH 5 ⟨#[97]⟩ _ _ hI9 (by simp) f5.1 f5.2); have hk9 := (hV9.block w5.heap.size hz8 hnO.out).trans hk8.out; have hn9 := Lib.hid (fun h => (hV9.own w5.heap.size h).elim hnO.out (fun h => absurd hz8 (Nat.not_lt.2 h))); have hz9 := Nat.lt_of_lt_of_le hz8 hV9.size; have H9 := Lib.hid (And.intro (hV9.above H8.out.1 H8.out.2.size) (H8.out.2.trans (hV9.below H8.out.1 H8.out.2.size))); clear g0 g1; have g0 := cell_of hk9 0; have g1 := cell_of hk9 1; simp only [List.getElem?_toArray, List.getElem?_cons_zero, List.getElem?_cons_succ] at g0 g1; have hk9 := Lib.hid hk9; clear C5 hI9 hV9 H8)
    | (go_at_call 15; (with_reducible refine C6.out.mono ?_); rintro e w10 ⟨rfl, O6, hIa, hVa⟩; have hka := (hVa.block w5.heap.size hz9 hn9.out).trans hk9.out; have hza := Nat.lt_of_lt_of_le hz9 hVa.size; have Ha := Lib.hid (H9.out.2.trans (hVa.below H9.out.1 H9.out.2.size)); have CL := Lib.hid (lenH 2 hIa rfl); have CW := Lib.hid (fun W (hB : Below w10.heap.size w10 W) => btwH 0 5 (hIa.below hB) (by simp)); have CH := Lib.hid (fun W (hB : Below w10.heap.size w10 W) => hasH 3 ⟨#[122]⟩ _ (hIa.below hB) (by simp) fH); have hka := Lib.hid hka; clear C6 hIa hVa H9 g0 g1)
    | (go_at_call 22; (with_reducible refine CL.out.mono ?_); rintro e w11 ⟨rfl, rfl⟩; clear CL)
    | (go_at_call 20; (with_reducible refine (CW.out _ (by (repeat' (first | assumption | exact Below.refl _ _ | apply Below.next_alloc | apply Below.drew | (apply Below.next; rotate_left; assumption))))).mono ?_); rintro e w12 ⟨vw, rfl, ho12, hB12⟩; obtain ⟨a12, c12, hv12⟩ := ho12.ents.slice; rw [fB] at hv12; subst hv12; clear CW ho12)
    | (go_at_call 10; (with_reducible refine (CH.out _ (by (repeat' (first | assumption | exact Below.refl _ _ | apply Below.next_alloc | apply Below.drew | (apply Below.next; rotate_left; assumption))))).mono ?_); rintro e w13 ⟨rfl, hB13⟩; have hkd := ((show Below w10.heap.size w10 w13 from by (repeat' (first | assumption | exact Below.refl _ _ | apply Below.next_alloc | apply Below.drew | (apply Below.next; rotate_left; assumption)))).block w5.heap.size hza).trans hka.out; have g0 := cell_of hkd 0; have g1 := cell_of hkd 1; simp only [List.getElem?_toArray, List.getElem?_cons_zero, List.getElem?_cons_succ] at g0 g1; have hBd := Lib.hid (Below.next Ha.out (show Below w10.heap.size w10 w13 from by (repeat' (first | assumption | exact Below.refl _ _ | apply Below.next_alloc | apply Below.drew | (apply Below.next; rotate_left; assumption))))); clear CH hkd hka)
    | (go_at_call 24; (with_reducible refine (less_at 3 5 ⟨#[]⟩ ⟨#[97]⟩ _ fL _).mono ?_); rintro e w14 ⟨rfl, hB14⟩))
  go_ret
  exact ⟨rfl, Below.next hBd.out (by (repeat' (first | assumption | exact Below.refl _ _ | apply Below.next_alloc | apply Below.drew | (apply Below.next; rotate_left; assumption))))⟩
end Go.Proofs.Ytncneoggnoiknaa.Du

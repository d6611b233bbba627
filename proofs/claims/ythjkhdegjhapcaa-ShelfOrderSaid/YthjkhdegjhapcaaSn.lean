/- The walk through errandlaw30.awake. -/
import Derived.Test.YthjkhdegjhapcaaSm
namespace Go.Proofs.Ythjkhdegjhapcaa.Sa
open Go.RowKit Sp
theorem Below.next {a b c : World} (h : Below a.heap.size a b) (k : Below b.heap.size b c) : Below a.heap.size a c := h.trans (k.mono h.size)
theorem Below.next_alloc {a b : World} (h : Below a.heap.size a b) (o : Obj) : Below a.heap.size a (b.alloc o) := h.alloc h.size o
def L3 : List Ent := [(⟨#[98]⟩, 2), (⟨#[97]⟩, 1), (⟨#[99]⟩, 3)]
def S3 : List Ent := [(⟨#[97]⟩, 1), (⟨#[98]⟩, 2), (⟨#[99]⟩, 3)]
theorem mk3 : mk L3 = S3 := by decide +kernel
theorem s3 : Sorted S3 := by rw [← mk3]; exact mk_sorted _
theorem lit3 {w W : World} {x0 x1 x2 : ByteArray} {n0 n1 n2 : Int} {T : Nat} {es : List Ent} (he : es = [(x0, n0), (x1, n1), (x2, n2)])
    (hb : Below (w.heap.size + 1) (w.alloc (.cells #[.string x0, .int .i64 n0, .string x1, .int .i64 n1, .string x2, .int .i64 n2] T)) W) : Ents W (.slice (some ⟨w.heap.size, 0, none⟩) 3 3) es := by
  subst he
  have hlt : w.heap.size < W.heap.size := by have := hb.size; rw [World.size_alloc] at this; omega
  refine .inr ⟨by simp, w.heap.size, 0, 3, rfl, hlt, by simp, fun h hh => ?_⟩
  have hc : ∀ i, W.cell? ⟨w.heap.size, i, none⟩ = (w.alloc (.cells #[.string x0, .int .i64 n0, .string x1, .int .i64 n1, .string x2, .int .i64 n2] T)).cell? ⟨w.heap.size, i, none⟩ := fun i => hb.cell (p := ⟨w.heap.size, i, none⟩) (Nat.lt_succ_self _)
  have hn := heap_alloc_new w (.cells #[.string x0, .int .i64 n0, .string x1, .int .i64 n1, .string x2, .int .i64 n2] T)
  simp at hh
  rw [hc, hc]
  clear hc hlt hb
  generalize w.alloc (.cells #[.string x0, .int .i64 n0, .string x1, .int .i64 n1, .string x2, .int .i64 n2] T) = W0 at hn ⊢
  match h, hh with
  | 0, _ => simp [World.cell?, hn]
  | 1, _ => simp [World.cell?, hn]
  | 2, _ => simp [World.cell?, hn]
theorem made3 {v : Value} {w : World} (h : Ents w v L3) : Calls Try.prog 9 #[v] w (Gives2 S3 S3 w) := by
  have := made_any h (by decide)
  rwa [mk3] at this
theorem find3 {v : Value} {w : World} (h : Ents w v S3) : Calls Try.prog 18 #[v, .string ⟨#[98, 98]⟩] w fun e w' => e = .returned (.tuple #[.int .i64 2, .bool false]) ∧ Below w.heap.size w w' := by
  have := find_any ⟨#[98, 98]⟩ h s3 (by decide)
  rwa [show cnt S3 ⟨#[98, 98]⟩ = 2 by decide +kernel, show has S3 ⟨#[98, 98]⟩ = false by decide +kernel] at this
theorem get3 {v : Value} {w : World} (h : Ents w v S3) : Calls Try.prog 20 #[v, .string ⟨#[99]⟩] w fun e w' => e = .returned (.tuple #[.int .i64 3, .bool true]) ∧ Below w.heap.size w w' := by
  have := get_any ⟨#[99]⟩ h s3 (by decide)
  rwa [show getV S3 ⟨#[99]⟩ = 3 by decide +kernel, show has S3 ⟨#[99]⟩ = true by decide +kernel] at this
theorem back3 {v : Value} {w : World} (h : Ents w v S3) : Calls Try.prog 12 #[v] w (Gives S3 w) := (back_any h (by decide)).mono fun _ _ h => h.gives rfl
theorem same3 {v u : Value} {w : World} (h : Ents w v S3) (k : Ents w u S3) : Calls Try.prog 11 #[v, u] w fun e w' => e = .returned (.bool true) ∧ Below w.heap.size w w' := by
  have := same_any h k (by decide)
  rwa [decide_eq_true (rfl : S3 = S3)] at this
theorem sorted3 {v : Value} {w : World} (h : Ents w v S3) : Calls Try.prog 14 #[v] w fun e w' => e = .returned (.bool true) ∧ Below w.heap.size w w' := by
  have := sorted_any h (by decide)
  rwa [show sortedB S3 = true by decide +kernel] at this
theorem Gives.len {es : List Ent} {w w' : World} {e : Ending} (h : Gives es w e w') {n : Nat} (hn : es.length = n) : ∃ a cap, e = .returned (.slice a n cap) ∧ Below w.heap.size w w' := by
  obtain ⟨v', rfl, h1, h2⟩ := h
  obtain ⟨a, cap, rfl, _⟩ := len_of h1
  exact ⟨a, cap, by rw [hn], h2⟩
theorem drop3 {v : Value} {w : World} (h : Ents w v S3) : Calls Try.prog 10 #[v, .string ⟨#[98]⟩] w fun e w' => ∃ a cap, e = .returned (.slice a 2 cap) ∧ Below w.heap.size w w' :=
  (drop_any _ h s3 (by decide)).mono fun _ _ h => (h.gives rfl).len (by decide +kernel)
theorem between3 {v : Value} {w : World} (h : Ents w v S3) : Calls Try.prog 22 #[v, .string ⟨#[97]⟩, .string ⟨#[99]⟩] w fun e w' => ∃ a cap, e = .returned (.slice a 2 cap) ∧ Below w.heap.size w w' :=
  (between_any _ _ h s3 (by decide)).mono fun _ _ h => (h.gives rfl).len (by decide +kernel)
theorem keys3 {v : Value} {w : World} (h : Ents w v S3) : Calls Try.prog 17 #[v] w fun e w' => ∃ a cap, e = .returned (.slice a 3 cap) ∧ Below w.heap.size w w' :=
  (keys_any h (by decide)).mono fun _ _ h => by
    obtain ⟨v', rfl, ⟨_, ⟨_, h1⟩ | ⟨g, cap, cur, rfl, _⟩⟩, h2⟩ := h
    · exact absurd h1 (by decide)
    · exact ⟨_, cap, rfl, h2⟩
set_option maxHeartbeats 2000000 in
set_option maxRecDepth 100000 in
theorem awake_any (w : World) : Calls Try.prog 8 #[] w fun e w' => e = .returned (.bool true) ∧ Below w.heap.size w w' := by
  go_enter Try.func8, Try.ntmps8
  go_wp2_with (first
    | (go_at_call 9; refine (made3 (lit3 rfl (Below.refl _ _))).mono ?_; rintro e w1 ⟨va, ub, rfl, hA, hR, hB1⟩)
    | (go_at_call 18; refine (find3 (hA.below (by (repeat' (first | assumption | exact Below.refl _ _ | apply Below.next_alloc | apply Below.drew | (apply Below.next; rotate_left; assumption)))))).mono ?_; rintro e w2 ⟨rfl, hB2⟩)
    | (go_at_call 20; refine (get3 (hA.below (by (repeat' (first | assumption | exact Below.refl _ _ | apply Below.next_alloc | apply Below.drew | (apply Below.next; rotate_left; assumption)))))).mono ?_; rintro e w3 ⟨rfl, hB3⟩)
    | (go_at_call 12; refine (back3 (hA.below (by (repeat' (first | assumption | exact Below.refl _ _ | apply Below.next_alloc | apply Below.drew | (apply Below.next; rotate_left; assumption)))))).mono ?_; rintro e w4 ⟨vb, rfl, hV, hB4⟩)
    | (go_at_call 11; refine (same3 (hV.below (by (repeat' (first | assumption | exact Below.refl _ _ | apply Below.next_alloc | apply Below.drew | (apply Below.next; rotate_left; assumption))))) (lit3 rfl (Below.refl _ _))).mono ?_; rintro e w5 ⟨rfl, hB5⟩)
    | (go_at_call 10; refine (drop3 (hA.below (by (repeat' (first | assumption | exact Below.refl _ _ | apply Below.next_alloc | apply Below.drew | (apply Below.next; rotate_left; assumption)))))).mono ?_; rintro e w6 ⟨_, _, rfl, hB6⟩)
    | (go_at_call 17; refine (keys3 (hA.below (by (repeat' (first | assumption | exact Below.refl _ _ | apply Below.next_alloc | apply Below.drew | (apply Below.next; rotate_left; assumption)))))).mono ?_; rintro e w7 ⟨_, _, rfl, hB7⟩)
    | (go_at_call 22; refine (between3 (hA.below (by (repeat' (first | assumption | exact Below.refl _ _ | apply Below.next_alloc | apply Below.drew | (apply Below.next; rotate_left; assumption)))))).mono ?_; rintro e w8 ⟨_, _, rfl, hB8⟩)
    | (go_at_call 14; refine (sorted3 (hA.below (by (repeat' (first | assumption | exact Below.refl _ _ | apply Below.next_alloc | apply Below.drew | (apply Below.next; rotate_left; assumption)))))).mono ?_; rintro e w9 ⟨rfl, hB9⟩))
  go_ret
  exact ⟨rfl, by (repeat' (first | assumption | exact Below.refl _ _ | apply Below.next_alloc | apply Below.drew | (apply Below.next; rotate_left; assumption)))⟩
end Go.Proofs.Ythjkhdegjhapcaa.Sa

/- The walk through errandlaw31's DepsChanges (printed by gen_changes.py). -/
import Derived.Test.YthelkkbjflohgaaHl
namespace Go.Proofs.Ythelkkbjflohgaa.Ds
open Go.RowKit Ut Gr Go.Maps
theorem same_edges {W : World} {v u : Value} {l : List (ByteArray × ByteArray)} (h : Edgs W v l) (k : Edgs W u l) (hn : l.length ≤ 1000) : Calls Try.prog 25 #[v, u] W fun e w' => e = .returned (.bool true) ∧ Below W.heap.size W w' := by
  have := rSameEdges_any h k (by omega) (by omega)
  rwa [same_yes rfl] at this
theorem strs_nil (w : World) : Strs w (.slice none 0 0) [] := .inl ⟨rfl, none, 0, rfl, fun _ => rfl⟩
theorem addL_le (l : List (ByteArray × ByteArray)) (e : ByteArray × ByteArray) : (addL l e).1.length ≤ l.length + 1 := by
  unfold addL
  split
  · simp
  · split <;> simp
theorem dropL_le (l : List (ByteArray × ByteArray)) (e : ByteArray × ByteArray) : (dropL l e).1.length ≤ l.length := by
  unfold dropL
  split
  · exact rest_le _ _
  · exact Nat.le_refl _
def GivesP (w : World) (l : List (ByteArray × ByteArray)) (k : Int) (e : Ending) (w' : World) : Prop := ∃ u, e = .returned (.tuple #[u, .int .i64 k]) ∧ Edgs w' u l ∧ Below w.heap.size w w'
set_option maxHeartbeats 8000000 in
set_option maxRecDepth 100000 in
theorem changes_any {w : World} {v : Value} {l : List (ByteArray × ByteArray)} (p q : ByteArray) (hl : Edgs w v l) :
    Calls Try.prog 4 #[v, .agg #[.string p, .string q]] w fun e w' => e = .returned (.bool true) ∧ Below w.heap.size w w' := by
  have FF := Lib.hid (few_any (w := w.alloc (.cells #[.string p, .string q] 25)) (hl.below (Below.next_alloc (Below.refl _ _) _)) (strs_nil _))
  have HL := Lib.hid hl
  clear hl
  cases hf : fewB l []
  · rw [hf] at FF
    clear hf
    go_enter Try.func4, Try.ntmps4
    go_wp2_with (first
      | (go_at_call 7; (with_reducible refine FF.out.mono ?_); rintro e w1 ⟨rfl, hB1⟩; have b1 := Lib.hid (next_allocs hB1); clear hB1)
      | (go_at_call 8; (with_reducible refine (awake_any _).mono ?_); rintro e w2 ⟨rfl, hB2⟩; have b2 := Lib.hid (Below.next b1.out hB2); clear hB2))
    go_ret
    exact ⟨rfl, b2.out⟩
  rw [hf] at FF
  obtain ⟨hn, -, hsz, -⟩ := few_iff.1 hf
  clear hf
  by_cases hp : p.size ≤ 30
  rotate_left
  · have hp2 : (30 : Int) < (p.size : Int) := by omega
    clear hsz
    go_enter Try.func4, Try.ntmps4
    go_wp2_with (first
      | (go_at_call 7; (with_reducible refine FF.out.mono ?_); rintro e w1 ⟨rfl, hB1⟩; have b1 := Lib.hid (next_allocs hB1); obtain ⟨hlt, e0, e1⟩ := boxed2 hB1; clear hB1)
      | (go_at_call 8; (with_reducible refine (awake_any _).mono ?_); rintro e w2 ⟨rfl, hB2⟩; have b2 := Lib.hid (Below.next b1.out hB2); clear hB2))
    go_ret
    exact ⟨rfl, b2.out⟩
  have hp2 : ¬ (30 : Int) < (p.size : Int) := by omega
  by_cases hq : q.size ≤ 30
  rotate_left
  · have hq2 : (30 : Int) < (q.size : Int) := by omega
    clear hsz
    go_enter Try.func4, Try.ntmps4
    go_wp2_with (first
      | (go_at_call 7; (with_reducible refine FF.out.mono ?_); rintro e w1 ⟨rfl, hB1⟩; have b1 := Lib.hid (next_allocs hB1); obtain ⟨hlt, e0, e1⟩ := boxed2 hB1; clear hB1)
      | (go_at_call 8; (with_reducible refine (awake_any _).mono ?_); rintro e w2 ⟨rfl, hB2⟩; have b2 := Lib.hid (Below.next b1.out hB2); clear hB2))
    go_ret
    exact ⟨rfl, b2.out⟩
  have hq2 : ¬ (30 : Int) < (q.size : Int) := by omega
  have hz := short_of hsz
  have hpm : p.size ≤ maxLen := by unfold maxLen; omega
  have FO := Lib.hid (fun W (hB : Below w.heap.size w W) => ownE_any (w := W) (HL.out.below hB) (by omega))
  have FA := Lib.hid (fun W v' (hE : Edgs W v' l) => show Calls Try.prog 21 #[v', .agg #[.string p, .string q]] W (GivesP W (addL l (p, q)).1 (addL l (p, q)).2) from add_any (w := W) p q hE (by omega) hz hpm)
  have FB := Lib.hid (fun W (hB : Below w.heap.size w W) => show Calls Try.prog 22 #[v, .agg #[.string p, .string q]] W (GivesP W (addL l (p, q)).1 (addL l (p, q)).2) from rAdd_any (w := W) p q (HL.out.below hB) (by omega))
  have FD := Lib.hid (fun W v' (hE : Edgs W v' l) => show Calls Try.prog 23 #[v', .agg #[.string p, .string q]] W (GivesP W (dropL l (p, q)).1 (dropL l (p, q)).2) from drop_any (w := W) p q hE (by omega))
  have FE := Lib.hid (fun W (hB : Below w.heap.size w W) => show Calls Try.prog 24 #[v, .agg #[.string p, .string q]] W (GivesP W (dropL l (p, q)).1 (dropL l (p, q)).2) from rDrop_any (w := W) p q (HL.out.below hB) (by omega))
  have FK := Lib.hid (fun W v' m (hE : Edgs W v' m) (hm : m.length ≤ 1000) => backE_any (w := W) hE hm)
  have h1 := Lib.hid (show (addL l (p, q)).1.length ≤ 1000 by have := addL_le l (p, q); omega)
  have h2 := Lib.hid (show (dropL l (p, q)).1.length ≤ 1000 by have := dropL_le l (p, q); omega)
  have HN := Lib.hid (show l.length ≤ 1000 by omega)
  generalize (addL l (p, q)).1 = m1 at *
  generalize (addL l (p, q)).2 = k1 at *
  generalize (dropL l (p, q)).1 = m2 at *
  generalize (dropL l (p, q)).2 = k2 at *
  clear hsz hz hpm hn hp hq
  go_enter Try.func4, Try.ntmps4
  go_wp2_with (first
  | (go_at_call 7; (with_reducible refine FF.out.mono ?_); rintro e w1 ⟨rfl, hB1⟩; have b1 := Lib.hid (next_allocs hB1); have K1 := Lib.hid (boxed2 hB1); obtain ⟨hlt, e0, e1⟩ := K1.out; clear hB1)
  | (go_at_call 9; (with_reducible refine (FO.out _ b1.out).mono ?_); rintro e w2 ⟨v2, rfl, hO, hB⟩; have b2 := Lib.hid (Below.next b1.out hB); have E2 := Lib.hid (hO.edgs); have K2 := Lib.hid (keep2 K1.out hB); clear K1 hO hB; clear hlt e0 e1; obtain ⟨hlt, e0, e1⟩ := K2.out)
  | (go_at_call 21; (with_reducible refine (FA.out _ _ E2.out).mono ?_); rintro e w3 ⟨x3, rfl, hE, hB⟩; have b3 := Lib.hid (Below.next b2.out hB); have E3 := Lib.hid (E2.out.below hB); have A3 := Lib.hid (hE); have K3 := Lib.hid (keep2 K2.out hB); clear K2 E2 hE hB; clear hlt e0 e1; obtain ⟨hlt, e0, e1⟩ := K3.out)
  | (go_at_call 22; (with_reducible refine (FB.out _ b3.out).mono ?_); rintro e w4 ⟨x4, rfl, hE, hB⟩; have b4 := Lib.hid (Below.next b3.out hB); have E4 := Lib.hid (E3.out.below hB); have A4 := Lib.hid (A3.out.below hB); have B4 := Lib.hid (hE); have K4 := Lib.hid (keep2 K3.out hB); clear K3 E3 A3 hE hB; clear hlt e0 e1; obtain ⟨hlt, e0, e1⟩ := K4.out)
  | (go_at_call 23; (with_reducible refine (FD.out _ _ E4.out).mono ?_); rintro e w5 ⟨x5, rfl, hE, hB⟩; have b5 := Lib.hid (Below.next b4.out hB); have E5 := Lib.hid (E4.out.below hB); have A5 := Lib.hid (A4.out.below hB); have B5 := Lib.hid (B4.out.below hB); have C5 := Lib.hid (hE); have K5 := Lib.hid (keep2 K4.out hB); clear K4 E4 A4 B4 hE hB; clear hlt e0 e1; obtain ⟨hlt, e0, e1⟩ := K5.out)
  | (go_at_call 24; (with_reducible refine (FE.out _ b5.out).mono ?_); rintro e w6 ⟨x6, rfl, hE, hB⟩; have b6 := Lib.hid (Below.next b5.out hB); have E6 := Lib.hid (E5.out.below hB); have A6 := Lib.hid (A5.out.below hB); have B6 := Lib.hid (B5.out.below hB); have C6 := Lib.hid (C5.out.below hB); have D6 := Lib.hid (hE); clear K5 E5 A5 B5 C5 hE hlt e0 e1 hB)
  | (go_at_call 26; (with_reducible refine (FK.out _ _ _ A6.out h1.out).mono ?_); rintro e w7 ⟨x7, rfl, hO, hB⟩; have b7 := Lib.hid (Below.next b6.out hB); have E7 := Lib.hid (E6.out.below hB); have A7 := Lib.hid (hO.edgs); have B7 := Lib.hid (B6.out.below hB); have C7 := Lib.hid (C6.out.below hB); have D7 := Lib.hid (D6.out.below hB); clear E6 A6 B6 C6 D6 hO hB)
  | (go_at_call 25; (with_reducible refine (same_edges A7.out B7.out h1.out).mono ?_); rintro e w8 ⟨rfl, hB⟩; have b8 := Lib.hid (Below.next b7.out hB); have E8 := Lib.hid (E7.out.below hB); have C8 := Lib.hid (C7.out.below hB); have D8 := Lib.hid (D7.out.below hB); clear E7 A7 B7 C7 D7 hB)
  | (go_at_call 26; (with_reducible refine (FK.out _ _ _ C8.out h2.out).mono ?_); rintro e w9 ⟨x9, rfl, hO, hB⟩; have b9 := Lib.hid (Below.next b8.out hB); have E9 := Lib.hid (E8.out.below hB); have C9 := Lib.hid (hO.edgs); have D9 := Lib.hid (D8.out.below hB); clear E8 C8 D8 hO hB)
  | (go_at_call 25; (with_reducible refine (same_edges C9.out D9.out h2.out).mono ?_); rintro e w10 ⟨rfl, hB⟩; have b10 := Lib.hid (Below.next b9.out hB); have E10 := Lib.hid (E9.out.below hB); clear E9 C9 D9 hB)
  | (go_at_call 26; (with_reducible refine (FK.out _ _ _ E10.out HN.out).mono ?_); rintro e w11 ⟨x11, rfl, hO, hB⟩; have b11 := Lib.hid (Below.next b10.out hB); have E11 := Lib.hid (hO.edgs); clear E10 hO hB)
  | (go_at_call 25; (with_reducible refine (same_edges E11.out (HL.out.below b11.out) HN.out).mono ?_); rintro e w12 ⟨rfl, hB⟩; have b12 := Lib.hid (Below.next b11.out hB); have T12 := Lib.hid (trivial); clear E11 hB)
  | (go_at_call 8; (with_reducible refine (awake_any _).mono ?_); rintro e w13 ⟨rfl, hB⟩; have b13 := Lib.hid (Below.next b12.out hB); clear hB))
  go_ret
  exact ⟨rfl, b13.out⟩
end Go.Proofs.Ythelkkbjflohgaa.Ds

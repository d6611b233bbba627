/- The walk through slices.Delete at []Entry: one element less. -/
import Derived.Test.YtncneoggnoiknaaProg
import Derived.Test.YtncneoggnoiknaaMe
import Derived.Test.YtncneoggnoiknaaUt
import Derived.Test.YtncneoggnoiknaaIe
import Derived.WalkKit
import Derived.WalkLawsBesides
import Derived.Handy
import Derived.Lib.Hide
import Derived.Deep.RegionLaw
import Derived.Outline
namespace Go.Proofs.Ytncneoggnoiknaa.De
open Go.RowKit Me
theorem zeroE (w : World) : (zeroValue 29).run Try.prog w = .ok (Value.agg #[.int .i64 0, .string ByteArray.empty]) w := by kernel_rfl
set_option maxHeartbeats 4000000 in
set_option maxRecDepth 100000 in
theorem walk (b o m c i : Nat) (xs : List Value) (w : World) (hn : i + 1 + m ≤ c) (hc : c ≤ 9223372036854775807) (hx : xs.length = (i + 1 + m) * 2)
    (hxs : ∀ j u, xs[j]? = some u → w.cell? ⟨b, o + j, none⟩ = some u) (hsp : ∀ j, j < c * 2 → (w.cell? ⟨b, o + j, none⟩).isSome = true) (hfz : ∀ j, w.frozen? ⟨b, j, none⟩ = false) (h1x : ∀ u ∈ xs, u.oneCell' = true) :
    Calls Try.prog 29 #[.slice (some ⟨b, o, none⟩) (i + 1 + m) c, .int .i64 i, .int .i64 ((i : Int) + 1)] w fun e w' =>
      e = .returned (.slice (some ⟨b, o, none⟩) (i + m) c) ∧ w' = (w.drew.setCells b (o + i * 2) (xs.drop ((i + 1) * 2))).setCells b (o + (i + m) * 2) [.int .i64 0, .string ByteArray.empty] := by
  obtain ⟨i0, hi, hz0, hz1, hz2⟩ := info_parts Ie.info
  have hdl : (xs.drop ((i + 1) * 2)).length = m * 2 := by rw [List.length_drop]; omega
  obtain ⟨A, hA, hsrc⟩ : ∃ A : Addr, (if c = i + 1 then some (⟨b, o, none⟩ : Addr) else some ⟨b, o + (i + 1) * 2, none⟩) = some A ∧ Hid (∀ j u, (xs.drop ((i + 1) * 2))[j]? = some u → w.drew.cell? (A.add j) = some u) := by
    by_cases h : c = i + 1
    · refine ⟨⟨b, o, none⟩, by simp [h], fun j u hu => ?_⟩
      have := (List.getElem?_eq_some_iff.1 hu).1
      omega
    · refine ⟨⟨b, o + (i + 1) * 2, none⟩, by simp [h], fun j u hu => ?_⟩
      rw [List.getElem?_drop] at hu
      rw [Addr.add_lit, Nat.add_assoc]
      exact hxs _ u hu
  have s1 : Hid ((xs.drop ((i + 1) * 2)).length = m * 2) := hdl
  have s2 : Hid (∀ u ∈ xs.drop ((i + 1) * 2), u.oneCell' = true) := fun u hu => h1x u (List.mem_of_mem_drop hu)
  have s3 : Hid (∀ j, j < (xs.drop ((i + 1) * 2)).length → (w.drew.cell? ⟨b, o + i * 2 + j, none⟩).isSome = true ∧ w.drew.frozen? ⟨b, o + i * 2 + j, none⟩ = false) := fun j hj => ⟨by
    rw [Nat.add_assoc]
    exact hsp _ (by omega), hfz _⟩
  obtain ⟨W1, hW1⟩ : ∃ W1, W1 = w.drew.setCells b (o + i * 2) (xs.drop ((i + 1) * 2)) := ⟨_, rfl⟩
  have hcl : ∀ ty lc, (Builtin.clear_ #[43] ty #[.slice (some ⟨b, o + (i + m) * 2, none⟩) (i + 1 + m - (i + m)) lc]).run Try.prog W1 = .ok (.tuple #[]) (W1.setCells b (o + (i + m) * 2) [.int .i64 0, .string ByteArray.empty]) := fun ty lc => by
    rw [show i + 1 + m - (i + m) = 1 by omega]
    exact run_clear_k W1 _ _ ty _ _ Try.underlying43 zeroE b _ 1 lc (by omega) (by kernel_rfl) (by intro u hu; simp only [List.mem_cons, List.not_mem_nil, or_false] at hu; rcases hu with rfl | rfl <;> rfl)
      (fun j hj => by
        simp only [List.length_cons, List.length_nil] at hj
        rw [hW1]
        exact some_setCells b _ _ _ (fun t ht => by rw [Nat.add_assoc]; exact hsp _ (by omega)) _ (by rw [Nat.add_assoc]; exact hsp _ (by omega)))
      (fun j _ => by rw [hW1, World.frozen?_setCells]; exact hfz _)
  have HW := Lib.hid hW1
  have CL := Lib.hid hcl
  have hne : ((i : Int) == (i : Int) + 1) = false := by rw [beq_eq_false_iff_ne]; omega
  have hw1 : IntKind.i64.wrap ((i : Int) + 1) = (i : Int) + 1 := by rw [IntKind.wrap_i64]; omega
  have hb1 : (0 : Int) ≤ (i : Int) + 1 := by omega
  have htn : ((i : Int) + 1).toNat = i + 1 := by omega
  have hb5 : ¬ (c = i + m) := by omega
  have hic : i ≤ c := by omega
  have hjc : i + 1 ≤ c := by omega
  have hkc : i + 1 + m ≤ c := by omega
  have hij : i ≤ i + 1 + m := by omega
  have hil : (i : Int) + 1 ≤ (i : Int) + 1 + (m : Int) := by omega
  have hik : i + m ≤ i + 1 + m := by omega
  have hb6 : i + 1 + m - (i + 1) = m := by omega
  have hb8 : ((i + 1 + m : Nat) : Int) = (i : Int) + 1 + (m : Int) := by omega
  clear hcl hW1 hsp hxs hfz h1x hx hdl hz0 hz2
  go_enter Try.func29, Try.ntmps29
  go_wp2
  go_region_law (refine step_append_room rfl (.tmp 22) (.tmp 25) 43 rfl 29 i0 2 Try.underlying43 hi hz1 b o i c (by simp [Act.eval, Act.put]) A m (c - (i + 1)) (xs.drop ((i + 1) * 2)) (by simp [Act.eval, Act.put]) s1.out hsrc.out s2.out (by omega) s3.out ?_; rw [← HW.out])
  go_wp2_with (refine wpList_clear_eq _ rfl _ 43 rfl _ rfl (CL.out _ _) ?_)
  go_ret
  exact ⟨rfl, by rw [HW.out]⟩
theorem del_any (b o n c i : Nat) (xs : List Value) (w : World) (hi : i < n) (hc : c ≤ 9223372036854775807) (hx : xs.length = n * 2)
    (H : Held w 29 b o (o + c * 2) xs) (h1x : ∀ u ∈ xs, u.oneCell' = true) :
    Calls Try.prog 29 #[.slice (some ⟨b, o, none⟩) n c, .int .i64 i, .int .i64 ((i : Int) + 1)] w fun e w' => e = .returned (.slice (some ⟨b, o, none⟩) (n - 1) c) ∧
      Held w' 29 b o (o + c * 2) (xs.take (i * 2) ++ xs.drop ((i + 1) * 2)) ∧ InReg b o (o + c * 2) w w' := by
  have hlen := H.len
  obtain ⟨m, rfl⟩ : ∃ m, n = i + 1 + m := ⟨n - (i + 1), by omega⟩
  have hl : (xs.take (i * 2)).length = i * 2 := by rw [List.length_take]; omega
  have hd : (xs.drop ((i + 1) * 2)).length = m * 2 := by rw [List.length_drop]; omega
  refine (walk b o m c i xs w (by omega) hc hx H.cell (fun j hj => H.there _ (by omega)) H.free h1x).mono ?_
  rintro e w' ⟨rfl, rfl⟩
  refine ⟨by rw [show i + 1 + m - 1 = i + m by omega], ?_, ?_⟩
  · have H0 : Held w.drew 29 b o (o + c * 2) xs := H
    have H1 : Held (w.drew.setCells b (o + i * 2) (xs.drop ((i + 1) * 2))) 29 b o (o + c * 2) (xs.take (i * 2) ++ xs.drop ((i + 1) * 2)) := by
      refine H0.set _ _ _ (by omega) (by omega) (by rw [List.length_append]; omega) fun j u hu => ?_
      by_cases h1 : j < i * 2
      · rw [List.getElem?_append_left (by omega), List.getElem?_take, if_pos h1] at hu
        exact .inr ⟨by omega, hu⟩
      · rw [List.getElem?_append_right (by omega), hl] at hu
        have := (List.getElem?_eq_some_iff.1 hu).1
        exact .inl ⟨by omega, by omega, by rw [show o + j - (o + i * 2) = j - i * 2 by omega]; exact hu⟩
    refine H1.set _ _ _ (by omega) (by simp only [List.length_cons, List.length_nil]; omega) (by rw [List.length_append]; omega) fun j u hu => ?_
    have := (List.getElem?_eq_some_iff.1 hu).1
    rw [List.length_append] at this
    exact .inr ⟨.inl (by omega), hu⟩
  · exact (((InReg.refl b o (o + c * 2) w).drew).trans (InReg.setCells _ _ _ (by omega) (by omega))).trans (InReg.setCells _ _ _ (by omega) (by simp only [List.length_cons, List.length_nil]; omega))
end Go.Proofs.Ytncneoggnoiknaa.De

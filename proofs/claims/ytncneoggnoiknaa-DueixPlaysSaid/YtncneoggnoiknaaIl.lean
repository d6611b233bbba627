/- The walk through slices.Insert at [][]Entry: one value more. -/
import Derived.Test.YtncneoggnoiknaaProg
import Derived.Test.YtncneoggnoiknaaMe
import Derived.Test.YtncneoggnoiknaaUt
import Derived.WalkKit
import Derived.WalkLawsBesides
import Derived.Handy
import Derived.Lib.Hide
import Derived.Lib.JoinLaws
import Derived.Lib.Overlaps
import Derived.Laws.Externs
import Derived.Laws.NewBlocks
import Derived.Deep.RegionLaw
import Derived.Outline
namespace Go.Proofs.Ytncneoggnoiknaa.Il
open Go.RowKit Me
theorem info : (Try.prog.info? 43).map (fun i => (i.zero, i.size, i.bytes)) = some (some (.slice none 0 0), 1, 24) := by kernel_rfl
theorem sizeIs (w : World) : (Go.sizeOf 43).run Try.prog w = .ok 1 w := by kernel_rfl
theorem size_map : (Try.prog.info? 43).map (·.size) = some 1 := by
  obtain ⟨i0, hi, h0, h1, h2⟩ := info_parts info
  rw [hi]; simp [h1]
set_option maxHeartbeats 4000000 in
set_option maxRecDepth 100000 in
/-- at the end, with room: in place -/
theorem end_room (b o n c vb vc : Nat) (vs : List Value) (w : World) (h0 : 0 < n) (hroom : n + 1 ≤ c) (_ : c ≤ 9223372036854775807) (hv : vs.length = 1)
    (hsp : ∀ j, j < vs.length → (w.cell? ⟨b, o + n + j, none⟩).isSome = true) (hfz : ∀ j, j < vs.length → w.frozen? ⟨b, o + n + j, none⟩ = false)
    (hvs : ∀ j u, vs[j]? = some u → w.cell? ((⟨vb, 0, none⟩ : Addr).add j) = some u) (h1 : ∀ u ∈ vs, u.oneCell' = true) :
    Calls Try.prog 28 #[.slice (some ⟨b, o, none⟩) n c, .int .i64 n, .slice (some ⟨vb, 0, none⟩) 1 vc] w fun e w' =>
      e = .returned (.slice (some ⟨b, o, none⟩) (n + 1) c) ∧ w' = w.setCells b (o + n) vs := by
  obtain ⟨i0, hi, hz0, hz1, hz2⟩ := info_parts info
  have hsrc : Hid (Src Try.prog i0.size 53 (.slice (some ⟨vb, 0, none⟩) 1 vc) 1 vs w) := Src.ofSlice w Try.underlying53 ⟨vb, 0, none⟩ 1 vc vs (by rw [hz1, hv]) hvs h1
  have hS := Lib.hid hsp
  have hF := Lib.hid hfz
  have hz1 := Lib.hid hz1
  clear hsp hfz hvs hv
  go_enter Try.func28, Try.ntmps28
  go_wp2_with (at_builtin; refine wpList_append_room_src _ rfl _ _ 53 53 rfl 43 i0 Try.underlying53 hi b o n c rfl _ rfl 1 vs hsrc.out hroom (by rw [hz1.out, Nat.mul_one]; exact hS.out) (by rw [hz1.out, Nat.mul_one]; exact hF.out) ?_; rw [hz1.out, Nat.mul_one])
  go_ret
  exact ⟨rfl, rfl⟩
set_option maxHeartbeats 4000000 in
set_option maxRecDepth 100000 in
/-- at the end, without room: a new row -/
theorem end_grow (b o n c vb vc : Nat) (xs vs : List Value) (w : World) (h0 : 0 < n) (hnc : n ≤ c) (hroom : c < n + 1) (hbig : n ≤ 100000) (hx : xs.length = n) (hv : vs.length = 1)
    (hxs : ∀ j u, xs[j]? = some u → w.cell? ((⟨b, o, none⟩ : Addr).add j) = some u)
    (hvs : ∀ j u, vs[j]? = some u → w.cell? ((⟨vb, 0, none⟩ : Addr).add j) = some u) (h1 : ∀ u ∈ vs, u.oneCell' = true) :
    Calls Try.prog 28 #[.slice (some ⟨b, o, none⟩) n c, .int .i64 n, .slice (some ⟨vb, 0, none⟩) 1 vc] w fun e w' =>
      e = .returned (.slice (some ⟨w.heap.size, 0, none⟩) (n + 1) (grownCap w (n + 1) c 43)) ∧
      w' = w.drew.alloc (.cells ((xs ++ vs).toArray ++ Builtin.zeroCells (Value.slice none 0 0).cells (grownCap w (n + 1) c 43 - (n + 1))) 43) := by
  obtain ⟨i0, hi, hz0, hz1, hz2⟩ := info_parts info
  have hsrc : Src Try.prog i0.size 53 (.slice (some ⟨vb, 0, none⟩) 1 vc) 1 vs w := Src.ofSlice w Try.underlying53 ⟨vb, 0, none⟩ 1 vc vs (by rw [hz1, hv]) hvs h1
  have hold : (Builtin.firstCells i0.size n (.slice (some ⟨b, o, none⟩) n c)).run Try.prog w.drew = .ok xs.toArray w.drew := run_firstCells_some w.drew i0.size n _ n c xs (by rw [hz1]; omega) (by simpa using hxs)
  have hr := fun ty => run_append_grow_src w 53 53 ty 43 i0 _ Try.underlying53 hi hz0 (some ⟨b, o, none⟩) n c xs hold _ 1 vs hsrc hroom (by omega) (by rw [hz2]; exact growslice_fits hroom (by omega))
  have hR := Lib.hid hr
  clear hr hold hsrc hxs hvs hx hv h1
  go_enter Try.func28, Try.ntmps28
  go_wp2_with (at_builtin; refine Lib.wpList_append_run _ rfl _ _ _ _ rfl _ _ rfl rfl _ _ (hR.out _) ?_)
  go_ret
  exact ⟨rfl, rfl⟩
set_option maxHeartbeats 4000000 in
set_option maxRecDepth 100000 in
/-- within, without room: a new row -/
theorem mid_grow (b o n c i vb vc : Nat) (xs vs : List Value) (w : World) (hi0 : i < n) (hnc : n ≤ c) (hroom : c < n + 1) (hbig : n ≤ 100000) (hx : xs.length = n) (hv : vs.length = 1)
    (hb : b < w.heap.size) (hvb : vb < w.heap.size)
    (hxs : ∀ j u, xs[j]? = some u → w.cell? ⟨b, o + j, none⟩ = some u)
    (hvs : ∀ j u, vs[j]? = some u → w.cell? ⟨vb, 0 + j, none⟩ = some u) (h1x : ∀ u ∈ xs, u.oneCell' = true) (h1 : ∀ u ∈ vs, u.oneCell' = true) :
    Calls Try.prog 28 #[.slice (some ⟨b, o, none⟩) n c, .int .i64 i, .slice (some ⟨vb, 0, none⟩) 1 vc] w fun e w' =>
      ∃ (G : Nat) (ROW : Array Value), n + 1 ≤ G ∧ G ≤ 9223372036854775807 ∧ ROW.size = G ∧ (∀ (j : Nat) (u : Value), (xs.take (i))[j]? = some u → ROW[j]? = some u) ∧ e = .returned (.slice (some ⟨w.heap.size, 0, none⟩) (n + 1) G) ∧
      w' = (((w.alloc (.cells ROW 43)).drew.setCells w.heap.size (i) vs).drew).setCells w.heap.size ((i + 1)) (xs.drop (i)) := by
  obtain ⟨i0, hi, hz0, hz1, hz2⟩ := info_parts info
  have hkk : (n : Int) + 1 - (i : Int) = ((n + 1 - i : Nat) : Int) := by omega
  have hik : i + (n + 1 - i) = n + 1 := by omega
  have htl : (xs.take (i)).length = i := by rw [List.length_take]; omega
  have hold : (Builtin.firstCells i0.size i (.slice (some ⟨b, o, none⟩) i c)).run Try.prog w.drew = .ok (xs.take (i)).toArray w.drew :=
    run_firstCells_some w.drew i0.size i _ i c (xs.take (i)) (by rw [hz1]; omega) (fun j u hj => by
      rw [Addr.add_lit]
      rw [List.getElem?_take] at hj
      split at hj
      · exact hxs j u hj
      · cases hj)
  have hrz : ∀ ty, (Builtin.append_ #[53, 3] ty #[.slice (some ⟨b, o, none⟩) i c, .int .i64 ((n : Int) + 1 - (i : Int))]).run Try.prog w =
      .ok (.slice (some ⟨w.heap.size, 0, none⟩) (n + 1) (grownCap w (n + 1) c 43)) (w.drew.alloc (.cells ((xs.take (i)).toArray ++ Builtin.zeroCells (Value.slice none 0 0).cells (n + 1 - i) ++ Builtin.zeroCells (Value.slice none 0 0).cells (grownCap w (n + 1) c 43 - (n + 1))) 43)) := fun ty => by
    have h := Lib.run_append_grow_zeros w 53 3 ty 43 i0 _ .i64 .i64 Try.underlying53 Try.underlying3 hi hz0 (some ⟨b, o, none⟩) i c (xs.take (i)) hold (n + 1 - i) (by omega) (by omega) (by omega) (by omega) (by rw [hz2]; omega) (by rw [hz2, hik]; exact growslice_fits hroom (by omega))
    rw [hik] at h
    rw [hkk]
    exact h
  have hGn : n + 1 ≤ grownCap w (n + 1) c 43 := grownCap_ge w _ _ _
  have hG63 : grownCap w (n + 1) c 43 ≤ 9223372036854775807 := by
    have := grownCap_le_maxLen w (n + 1) c 43 (by unfold maxLen; omega)
    unfold maxLen at this
    omega
  obtain ⟨G, hG⟩ : ∃ G, G = grownCap w (n + 1) c 43 := ⟨_, rfl⟩
  rw [← hG] at hrz hGn hG63
  obtain ⟨ROW, hROW⟩ : ∃ ROW : Array Value, ROW = (xs.take (i)).toArray ++ Builtin.zeroCells (Value.slice none 0 0).cells (n + 1 - i) ++ Builtin.zeroCells (Value.slice none 0 0).cells (G - (n + 1)) := ⟨_, rfl⟩
  rw [← hROW] at hrz
  have hRl : ROW.size = G := by
    rw [hROW, Array.size_append, Array.size_append, size_zeroCells, size_zeroCells, List.size_toArray, htl]
    have hzc : (Value.slice none 0 0).cells.size = 1 := rfl
    rw [hzc]
    omega
  have hRt : ∀ j u, (xs.take (i))[j]? = some u → ROW[j]? = some u := fun j u hu => by
    have hj : j < i := by rw [← htl]; exact (List.getElem?_eq_some_iff.1 hu).1
    rw [hROW, Array.append_assoc, Array.getElem?_append_left (by rw [List.size_toArray, htl]; exact hj), List.getElem?_toArray]
    exact hu
  obtain ⟨W1, hW1⟩ : ∃ W1, W1 = w.drew.alloc (.cells ROW 43) := ⟨_, rfl⟩
  rw [← hW1] at hrz
  have hN : ∀ j, j < (n + 1) → (W1.cell? ⟨w.heap.size, j, none⟩).isSome = true := fun j hj => by
    rw [hW1, World.cell?_alloc_at (w := w.drew) ROW _ w.heap.size j rfl, Array.getElem?_eq_getElem (by omega)]; rfl
  have hNf : ∀ j, W1.frozen? ⟨w.heap.size, j, none⟩ = false := fun j => by rw [hW1]; exact World.frozen?_alloc_at (w := w.drew) ROW _ w.heap.size j rfl
  have hOb : ∀ j u, w.cell? ⟨b, j, none⟩ = some u → W1.cell? ⟨b, j, none⟩ = some u := fun j u h => by rw [hW1, World.cell?_alloc_past (w := w.drew) _ b j hb]; exact h
  have hOv : ∀ j u, w.cell? ⟨vb, j, none⟩ = some u → W1.cell? ⟨vb, j, none⟩ = some u := fun j u h => by rw [hW1, World.cell?_alloc_past (w := w.drew) _ vb j hvb]; exact h
  have hcpA : ∀ (W : World), (∀ x, W.cell? x = W1.cell? x) → (∀ x, W.frozen? x = W1.frozen? x) → ∀ ty dc, (Builtin.copy_ #[53, 53] ty #[.slice (some ⟨w.heap.size, i, none⟩) (n + 1 - i) dc, .slice (some ⟨vb, 0, none⟩) 1 vc]).run Try.prog W = .ok (goInt 1) (W.setCells w.heap.size (i) vs) := fun W hWc hWf ty dc =>
    run_copy_k W _ _ ty 43 1 w.heap.size (i) (n + 1 - i) dc ⟨vb, 0, none⟩ 1 vc 1 vs Try.underlying53 size_map (by simp only [Nat.min_def]; split <;> omega) (by omega)
      (fun j u hj => by rw [Addr.add_lit, hWc]; exact hOv _ u (hvs j u hj))
      (fun j hj => by rw [hWc]; exact hN _ (by omega)) (fun j hj => by rw [hWf]; exact hNf _) h1
  have hdl : (xs.drop (i)).length = n - i := by rw [List.length_drop]; omega
  have hbN : b ≠ w.heap.size := by omega
  have hcpB : ∀ (W : World), (∀ x, W.cell? x = (W1.setCells w.heap.size (i) vs).cell? x) → (∀ x, W.frozen? x = (W1.setCells w.heap.size (i) vs).frozen? x) → ∀ ty dc sc, (Builtin.copy_ #[53, 53] ty #[.slice (some ⟨w.heap.size, (i + 1), none⟩) (n - i) dc, .slice (some ⟨b, o + i, none⟩) (n - i) sc]).run Try.prog W = .ok (goInt (n - i : Nat)) (W.setCells w.heap.size ((i + 1)) (xs.drop (i))) := fun W hWc hWf ty dc sc =>
    run_copy_k W _ _ ty 43 1 w.heap.size ((i + 1)) (n - i) dc ⟨b, o + i, none⟩ (n - i) sc (n - i) (xs.drop (i)) Try.underlying53 size_map (by simp only [Nat.min_def]; split <;> omega) (by omega)
      (fun j u hj => by
        rw [Addr.add_lit, hWc, World.cell?_setCells_out _ _ _ _ _ (fun h _ => absurd h hbN), Nat.add_assoc]
        exact hOb _ u (hxs (i + j) u (by rwa [List.getElem?_drop] at hj)))
      (fun j hj => by rw [hWc]; exact some_setCells _ _ _ _ (fun t ht => hN _ (by omega)) _ (hN _ (by omega)))
      (fun j hj => by rw [hWf, World.frozen?_setCells]; exact hNf _) (fun u hu => h1x u (List.mem_of_mem_drop hu))
  subst hW1
  have hE1 : ∀ x, ((w.alloc (.cells ROW 43)).drew).cell? x = (w.drew.alloc (.cells ROW 43)).cell? x := fun x => rfl
  have hE2 : ∀ x, ((w.alloc (.cells ROW 43)).drew).frozen? x = (w.drew.alloc (.cells ROW 43)).frozen? x := fun x => rfl
  have hF1 : ∀ x, (((w.alloc (.cells ROW 43)).drew.setCells w.heap.size (i) vs).drew).cell? x = ((w.drew.alloc (.cells ROW 43)).setCells w.heap.size (i) vs).cell? x := fun x => rfl
  have hF2 : ∀ x, (((w.alloc (.cells ROW 43)).drew.setCells w.heap.size (i) vs).drew).frozen? x = ((w.drew.alloc (.cells ROW 43)).setCells w.heap.size (i) vs).frozen? x := fun x => rfl
  have RZ := Lib.hid hrz
  have CA := Lib.hid (hcpA _ hE1 hE2)
  have CB := Lib.hid (hcpB _ hF1 hF2)
  have RT := Lib.hid hRt
  have RL := Lib.hid hRl
  have hGi : ¬ (G = i) := by omega
  have hGim : ¬ (G = i + 1) := by omega
  have hci : ¬ (c = i) := by omega
  have hz2' : ¬ ((i : Int) = (n : Int)) := by omega
  have hz3 : (c : Int) < (n : Int) + 1 := by omega
  have hw1 : IntKind.i64.wrap ((i : Int) + 1) = (i : Int) + 1 := by rw [IntKind.wrap_i64]; omega
  have hb1 : (0 : Int) ≤ (i : Int) + 1 := by omega
  have hin : i ≤ n := by omega
  have htn : ((i : Int) + 1).toNat = i + 1 := by omega
  have hb3 : (i : Int) ≤ (n : Int) := by omega
  clear hkk hik hold hROW hG hRl hrz hcpA hcpB hE1 hE2 hF1 hF2 hRt hN hNf hOb hOv hxs hvs h1 h1x hx hv hdl htl hz0 hz1 hz2 hi
  go_enter Try.func28, Try.ntmps28
  go_wp2_with (first
    | (at_builtin; refine Lib.wpList_append_run _ rfl _ _ _ _ rfl _ _ rfl rfl _ _ (RZ.out _) ?_)
    | (refine wpList_copy_eq _ rfl (.tmp 43) (.tmp 44) 53 53 rfl _ _ rfl rfl (CA.out _ _) ?_))
  go_region_law (refine step_copy_eq rfl _ _ 53 53 rfl (.slice (some ⟨w.heap.size, (i + 1), none⟩) (n - i) (G - (i + 1))) (.slice (some ⟨b, o + i, none⟩) (n - i) (c - i)) (by simp [Act.eval, Act.put]) (by simp [Act.eval, Act.put]) (CB.out 3 (G - (i + 1)) (c - i)) ?_)
  go_wp2
  go_ret
  exact ⟨G, ROW, hGn, hG63, RL.out, RT.out, rfl, rfl⟩
set_option maxHeartbeats 4000000 in
set_option maxRecDepth 100000 in
/-- within, with room: in place -/
theorem mid_room (b o n c i vb vc : Nat) (xs vs : List Value) (w : World) (hi0 : i < n) (hroom : n + 1 ≤ c) (hc : c ≤ 9223372036854775807) (hne : vb ≠ b) (hx : xs.length = n) (hv : vs.length = 1)
    (hxs : ∀ j u, xs[j]? = some u → w.cell? ⟨b, o + j, none⟩ = some u) (hsp : ∀ j, j < (n + 1) → (w.cell? ⟨b, o + j, none⟩).isSome = true) (hfz : ∀ j, w.frozen? ⟨b, j, none⟩ = false)
    (hvs : ∀ j u, vs[j]? = some u → w.cell? ⟨vb, 0 + j, none⟩ = some u) (h1x : ∀ u ∈ xs, u.oneCell' = true) (h1 : ∀ u ∈ vs, u.oneCell' = true)
    (tA tB : TypeId) (kA kB : Nat) (hsa : w.shape? vb = some (tA, kA)) (hsb : w.shape? b = some (tB, kB)) (hkB : kB ≠ 0) (hfa : ∀ j, w.frozen? ⟨vb, j, none⟩ = false) :
    Calls Try.prog 28 #[.slice (some ⟨b, o, none⟩) n c, .int .i64 i, .slice (some ⟨vb, 0, none⟩) 1 vc] w fun e w' =>
      e = .returned (.slice (some ⟨b, o, none⟩) (n + 1) c) ∧ w' = (w.drew.setCells b (o + (i + 1)) (xs.drop (i))).setCells b (o + i) vs := by
  have hov : ∀ lb cb, (callFunc 37 #[.slice (some ⟨vb, 0, none⟩) 1 vc, .slice (some ⟨b, o + (i + 1), none⟩) lb cb]).run Try.prog w = .ok (.value (.bool false)) w := fun lb cb => by
    rw [run_callFunc_extern Try.func37 (by kernel_rfl) (by kernel_rfl) (by kernel_rfl) (e := Extern.SlicesOverlaps.overlaps #[53, 53] #[4]) (by kernel_rfl),
      Lib.run_overlaps_apart w 53 4 43 Try.underlying53 1 sizeIs ⟨vb, 0, none⟩ ⟨b, o + (i + 1), none⟩ 1 vc lb cb hne tA tB kA kB hsa hsb hkB (hfa _) (hfa _)]
    rfl
  have hdl : (xs.drop (i)).length = n - i := by rw [List.length_drop]; omega
  have hw1 : IntKind.i64.wrap ((i : Int) + 1) = (i : Int) + 1 := by rw [IntKind.wrap_i64]; omega
  have hb1 : (0 : Int) ≤ (i : Int) + 1 := by omega
  have hin : i ≤ n := by omega
  have htn : ((i : Int) + 1).toNat = i + 1 := by omega
  have hb2 : ¬ (c = i + 1) := by omega
  have hb3 : (i : Int) ≤ (n : Int) + 1 := by omega
  have hb4 : ¬ (c = i) := by omega
  have hz2 : ¬ ((i : Int) = (n : Int)) := by omega
  have hcp1 : ∀ ty dc sc, (Builtin.copy_ #[53, 53] ty #[.slice (some ⟨b, o + (i + 1), none⟩) (n - i) dc, .slice (some ⟨b, o + i, none⟩) (n + 1 - i) sc]).run Try.prog w.drew = .ok (goInt (n - i : Nat)) (w.drew.setCells b (o + (i + 1)) (xs.drop (i))) := fun ty dc sc =>
    run_copy_k w.drew _ _ ty 43 1 b (o + (i + 1)) (n - i) dc ⟨b, o + i, none⟩ (n + 1 - i) sc (n - i) (xs.drop (i)) Try.underlying53 size_map (by simp only [Nat.min_def]; split <;> omega) (by omega)
      (fun j u hj => by rw [Addr.add_lit, Nat.add_assoc]; exact hxs (i + j) u (by rwa [List.getElem?_drop] at hj))
      (fun j hj => by rw [Nat.add_assoc]; exact hsp _ (by omega)) (fun j hj => hfz _) (fun u hu => h1x u (List.mem_of_mem_drop hu))
  obtain ⟨W1, hW1⟩ : ∃ W1, W1 = w.drew.setCells b (o + (i + 1)) (xs.drop (i)) := ⟨_, rfl⟩
  have hsp1 : ∀ j, j < (n + 1) → (W1.cell? ⟨b, o + j, none⟩).isSome = true := fun j hj => by
    rw [hW1]
    exact some_setCells b _ _ _ (fun t ht => by rw [Nat.add_assoc]; exact hsp _ (by omega)) _ (hsp j hj)
  have hcp2 : ∀ (W : World), (∀ x, W.cell? x = W1.cell? x) → (∀ x, W.frozen? x = W1.frozen? x) → ∀ ty dc, (Builtin.copy_ #[53, 53] ty #[.slice (some ⟨b, o + i, none⟩) (n + 1 - i) dc, .slice (some ⟨vb, 0, none⟩) 1 vc]).run Try.prog W = .ok (goInt 1) (W.setCells b (o + i) vs) := fun W hWc hWf ty dc =>
    run_copy_k W _ _ ty 43 1 b (o + i) (n + 1 - i) dc ⟨vb, 0, none⟩ 1 vc 1 vs Try.underlying53 size_map (by simp only [Nat.min_def]; split <;> omega) (by omega)
      (fun j u hj => by
        rw [Addr.add_lit, hWc, hW1, World.cell?_setCells_out b _ _ _ _ (fun h _ => absurd h hne)]
        exact hvs j u hj)
      (fun j hj => by rw [hWc, Nat.add_assoc]; exact hsp1 _ (by omega)) (fun j hj => by rw [hWf, hW1, World.frozen?_setCells]; exact hfz _) h1
  rw [← hW1] at hcp1
  have OV := hov
  have C1 := Lib.hid hcp1
  have C2 := Lib.hid hcp2
  have HW := Lib.hid hW1
  clear hcp1 hcp2 hW1 hsp1 hsp hxs hvs hfz h1 h1x hx hv hdl hsa hsb hkB hfa hov
  go_enter Try.func28, Try.ntmps28
  go_wp2_with (simp only [OV])
  go_region_law (refine step_copy_eq rfl _ _ 53 53 rfl (.slice (some ⟨b, o + (i + 1), none⟩) (n - i) (c - (i + 1))) (.slice (some ⟨b, o + i, none⟩) (n + 1 - i) (c - i)) (by simp [Act.eval, Act.put]) (by simp [Act.eval, Act.put]) (C1.out 3 (c - (i + 1)) (c - i)) ?_)
  go_wp2_with (refine wpList_copy_eq _ rfl (.tmp 80) (.tmp 81) 53 53 rfl _ _ rfl rfl (C2.out _ (fun _ => rfl) (fun _ => rfl) _ _) ?_)
  go_ret
  exact ⟨rfl, by rw [HW.out]⟩
theorem end_room1 (b o n c vb vc : Nat) (vs : List Value) (w : World) (h0 : 0 < n) (hroom : n + 1 ≤ c) (_ : c ≤ 9223372036854775807) (hv : vs.length = 1)
    (hsp : ∀ j, j < vs.length → (w.cell? ⟨b, o + n * 1 + j, none⟩).isSome = true) (hfz : ∀ j, j < vs.length → w.frozen? ⟨b, o + n * 1 + j, none⟩ = false)
    (hvs : ∀ j u, vs[j]? = some u → w.cell? ((⟨vb, 0, none⟩ : Addr).add j) = some u) (h1 : ∀ u ∈ vs, u.oneCell' = true) :
    Calls Try.prog 28 #[.slice (some ⟨b, o, none⟩) n c, .int .i64 n, .slice (some ⟨vb, 0, none⟩) 1 vc] w fun e w' =>
      e = .returned (.slice (some ⟨b, o, none⟩) (n + 1) c) ∧ w' = w.setCells b (o + n * 1) vs := by
  simp only [Nat.mul_one] at *
  exact end_room b o n c vb vc vs w (by assumption) (by assumption) (by assumption) (by assumption) (by assumption) (by assumption) (by assumption) (by assumption)
theorem end_grow1 (b o n c vb vc : Nat) (xs vs : List Value) (w : World) (h0 : 0 < n) (hnc : n ≤ c) (hroom : c < n + 1) (hbig : n ≤ 100000) (hx : xs.length = n * 1) (hv : vs.length = 1)
    (hxs : ∀ j u, xs[j]? = some u → w.cell? ((⟨b, o, none⟩ : Addr).add j) = some u)
    (hvs : ∀ j u, vs[j]? = some u → w.cell? ((⟨vb, 0, none⟩ : Addr).add j) = some u) (h1 : ∀ u ∈ vs, u.oneCell' = true) :
    Calls Try.prog 28 #[.slice (some ⟨b, o, none⟩) n c, .int .i64 n, .slice (some ⟨vb, 0, none⟩) 1 vc] w fun e w' =>
      e = .returned (.slice (some ⟨w.heap.size, 0, none⟩) (n + 1) (grownCap w (n + 1) c 43)) ∧
      w' = w.drew.alloc (.cells ((xs ++ vs).toArray ++ Builtin.zeroCells (Value.slice none 0 0).cells (grownCap w (n + 1) c 43 - (n + 1))) 43) := by
  simp only [Nat.mul_one] at *
  exact end_grow b o n c vb vc xs vs w (by assumption) (by assumption) (by assumption) (by assumption) (by assumption) (by assumption) (by assumption) (by assumption) (by assumption)
theorem mid_grow1 (b o n c i vb vc : Nat) (xs vs : List Value) (w : World) (hi0 : i < n) (hnc : n ≤ c) (hroom : c < n + 1) (hbig : n ≤ 100000) (hx : xs.length = n * 1) (hv : vs.length = 1)
    (hb : b < w.heap.size) (hvb : vb < w.heap.size)
    (hxs : ∀ j u, xs[j]? = some u → w.cell? ⟨b, o + j, none⟩ = some u)
    (hvs : ∀ j u, vs[j]? = some u → w.cell? ⟨vb, 0 + j, none⟩ = some u) (h1x : ∀ u ∈ xs, u.oneCell' = true) (h1 : ∀ u ∈ vs, u.oneCell' = true) :
    Calls Try.prog 28 #[.slice (some ⟨b, o, none⟩) n c, .int .i64 i, .slice (some ⟨vb, 0, none⟩) 1 vc] w fun e w' =>
      ∃ (G : Nat) (ROW : Array Value), n + 1 ≤ G ∧ G ≤ 9223372036854775807 ∧ ROW.size = G * 1 ∧ (∀ (j : Nat) (u : Value), (xs.take (i * 1))[j]? = some u → ROW[j]? = some u) ∧ e = .returned (.slice (some ⟨w.heap.size, 0, none⟩) (n + 1) G) ∧
      w' = (((w.alloc (.cells ROW 43)).drew.setCells w.heap.size (i * 1) vs).drew).setCells w.heap.size ((i + 1) * 1) (xs.drop (i * 1)) := by
  simp only [Nat.mul_one] at *
  exact mid_grow b o n c i vb vc xs vs w (by assumption) (by assumption) (by assumption) (by assumption) (by assumption) (by assumption) (by assumption) (by assumption) (by assumption) (by assumption) (by assumption) (by assumption)
theorem mid_room1 (b o n c i vb vc : Nat) (xs vs : List Value) (w : World) (hi0 : i < n) (hroom : n + 1 ≤ c) (hc : c ≤ 9223372036854775807) (hne : vb ≠ b) (hx : xs.length = n * 1) (hv : vs.length = 1)
    (hxs : ∀ j u, xs[j]? = some u → w.cell? ⟨b, o + j, none⟩ = some u) (hsp : ∀ j, j < (n + 1) * 1 → (w.cell? ⟨b, o + j, none⟩).isSome = true) (hfz : ∀ j, w.frozen? ⟨b, j, none⟩ = false)
    (hvs : ∀ j u, vs[j]? = some u → w.cell? ⟨vb, 0 + j, none⟩ = some u) (h1x : ∀ u ∈ xs, u.oneCell' = true) (h1 : ∀ u ∈ vs, u.oneCell' = true)
    (tA tB : TypeId) (kA kB : Nat) (hsa : w.shape? vb = some (tA, kA)) (hsb : w.shape? b = some (tB, kB)) (hkB : kB ≠ 0) (hfa : ∀ j, w.frozen? ⟨vb, j, none⟩ = false) :
    Calls Try.prog 28 #[.slice (some ⟨b, o, none⟩) n c, .int .i64 i, .slice (some ⟨vb, 0, none⟩) 1 vc] w fun e w' =>
      e = .returned (.slice (some ⟨b, o, none⟩) (n + 1) c) ∧ w' = (w.drew.setCells b (o + (i + 1) * 1) (xs.drop (i * 1))).setCells b (o + i * 1) vs := by
  simp only [Nat.mul_one] at *
  exact mid_room b o n c i vb vc xs vs w (by assumption) (by assumption) (by assumption) (by assumption) (by assumption) (by assumption) (by assumption) (by assumption) (by assumption) (by assumption) (by assumption) (by assumption) tA tB kA kB hsa hsb hkB hfa
theorem ins_any (b o n c i vb vc : Nat) (xs vs : List Value) (w : World) (hi : i ≤ n) (h0 : 0 < n) (hn : n ≤ 100000) (hc : c ≤ 9223372036854775807) (hne : vb ≠ b) (hx : xs.length = n * 1) (hv : vs.length = 1)
    (H : Held w 43 b o (o + c * 1) xs) (HV : Held w 43 vb 0 1 vs) (h1x : ∀ u ∈ xs, u.oneCell' = true) (h1 : ∀ u ∈ vs, u.oneCell' = true) :
    Calls Try.prog 28 #[.slice (some ⟨b, o, none⟩) n c, .int .i64 i, .slice (some ⟨vb, 0, none⟩) 1 vc] w (Insd 1 43 b o c (n + 1) (xs.take (i * 1) ++ vs ++ xs.drop (i * 1)) w) := by
  have hlen := H.len
  have hnc : n ≤ c := by omega
  have hvs : ∀ j u, vs[j]? = some u → w.cell? ((⟨vb, 0, none⟩ : Addr).add j) = some u := fun j u hu => by rw [Addr.add_lit]; exact HV.cell j u hu
  have hxs : ∀ j u, xs[j]? = some u → w.cell? ((⟨b, o, none⟩ : Addr).add j) = some u := fun j u hu => by rw [Addr.add_lit]; exact H.cell j u hu
  have hG : grownCap w (n + 1) c 43 ≤ 9223372036854775807 := by
    have := grownCap_le_maxLen w (n + 1) c 43 (by unfold maxLen; omega)
    unfold maxLen at this
    omega
  have hGn : n + 1 ≤ grownCap w (n + 1) c 43 := grownCap_ge w _ _ _
  by_cases hin : i = n
  · subst hin
    by_cases hroom : i + 1 ≤ c
    · refine (end_room1 b o i c vb vc vs w h0 hroom hc hv (fun j hj => by rw [Nat.add_assoc]; exact H.there _ (by omega)) (fun j _ => H.free _) hvs h1).mono ?_
      rintro en w' ⟨rfl, rfl⟩
      have hp := H.put_end (vs := vs) (by omega)
      rw [hx] at hp
      exact ⟨b, o, c, rfl, hroom, hc, hp, InReg.setCells vs _ w (by omega) (by omega), .inl ⟨rfl, rfl, rfl⟩⟩
    · refine (end_grow1 b o i c vb vc xs vs w h0 hnc (by omega) hn hx hv hxs hvs h1).mono ?_
      rintro en w' ⟨rfl, rfl⟩
      have hzc : (Value.slice none 0 0).cells.size = 1 := rfl
      have hsz : ((xs ++ vs).toArray ++ Builtin.zeroCells (Value.slice none 0 0).cells (grownCap w (i + 1) c 43 - (i + 1))).size = grownCap w (i + 1) c 43 * 1 := by
        rw [Array.size_append, size_zeroCells, List.size_toArray, List.length_append, hx, hv, hzc]; omega
      have hnew := Held.new w.drew 43 ((xs ++ vs).toArray ++ Builtin.zeroCells (Value.slice none 0 0).cells (grownCap w (i + 1) c 43 - (i + 1))) (xs.take (i * 1) ++ vs ++ xs.drop (i * 1)) (fun j u hu => by
        rw [List.take_of_length_le (by omega), List.drop_of_length_le (by omega), List.append_nil] at hu
        rw [Array.getElem?_append_left (by rw [List.size_toArray]; exact (List.getElem?_eq_some_iff.1 hu).1), List.getElem?_toArray]
        exact hu) (by rw [ins_len (by omega), hsz]; omega)
      refine ⟨w.heap.size, 0, _, rfl, hGn, hG, ?_, InReg.of_below _ _ _ (((Below.refl _ w).drew).alloc (Nat.le_refl _) _), .inr ⟨Nat.le_refl _, rfl, _, heap_alloc_new w.drew _, hsz⟩⟩
      rw [hsz] at hnew
      rw [Nat.zero_add]; exact hnew
  · have hlt : i < n := by omega
    by_cases hroom : n + 1 ≤ c
    · obtain ⟨kA, hsa, hkA⟩ := HV.shape
      obtain ⟨kB, hsb, hkB⟩ := H.shape
      refine (mid_room1 b o n c i vb vc xs vs w hlt hroom hc hne hx hv H.cell (fun j hj => H.there _ (by omega)) H.free HV.cell h1x h1 _ _ kA kB hsa hsb (by omega) HV.free).mono ?_
      rintro en w' ⟨rfl, rfl⟩
      have H' : Held w.drew 43 b o (o + c * 1) xs := H
      have hp := H'.put_mid (vs := vs) (i * 1) (by omega) (by omega)
      rw [hv, show i * 1 + 1 = (i + 1) * 1 by omega] at hp
      refine ⟨b, o, c, rfl, hroom, hc, hp, ?_, .inl ⟨rfl, rfl, rfl⟩⟩
      exact (((InReg.refl b o (o + c * 1) w).drew).trans (InReg.setCells _ _ _ (by omega) (by rw [List.length_drop]; omega))).trans (InReg.setCells _ _ _ (by omega) (by omega))
    · refine (mid_grow1 b o n c i vb vc xs vs w hlt hnc (by omega) hn hx hv H.lt HV.lt H.cell HV.cell h1x h1).mono ?_
      rintro en w' ⟨G, ROW, g1, g2, g3, g4, rfl, rfl⟩
      have hp := Held.put_new (w := w) (e := 43) (xs := xs) (vs := vs) (arr := ROW) (i * 1) (by omega) (by omega) g4
      rw [hv, show i * 1 + 1 = (i + 1) * 1 by omega, g3] at hp
      have hB : Below w.heap.size w ((((w.alloc (.cells ROW 43)).drew.setCells w.heap.size (i * 1) vs).drew).setCells w.heap.size ((i + 1) * 1) (xs.drop (i * 1))) :=
        below_cells (Nat.le_refl _) _ _ _ _ ((below_cells (Nat.le_refl _) _ _ _ _ (((Below.refl _ w).alloc (Nat.le_refl _) _).drew)).drew)
      obtain ⟨cur, q1, q2, -⟩ := (InReg.setCells (b := w.heap.size) (lo := 0) (hi := G * 1) (xs.drop (i * 1)) ((i + 1) * 1) ((w.alloc (.cells ROW 43)).drew.setCells w.heap.size (i * 1) vs).drew (by omega) (by rw [List.length_drop]; omega)).row _ _ _ (((InReg.setCells (b := w.heap.size) (lo := 0) (hi := G * 1) vs (i * 1) (w.alloc (.cells ROW 43)).drew (by omega) (by omega)).row _ _ _ (heap_alloc_new w _)).choose_spec.1)
      have q3 := ((InReg.setCells (b := w.heap.size) (lo := 0) (hi := G * 1) vs (i * 1) (w.alloc (.cells ROW 43)).drew (by omega) (by omega)).row _ _ _ (heap_alloc_new w _)).choose_spec.2.1
      exact ⟨w.heap.size, 0, G, rfl, g1, g2, by rw [Nat.zero_add]; exact hp, InReg.of_below _ _ _ hB, .inr ⟨Nat.le_refl _, rfl, cur, q1, by rw [q2, q3, g3]⟩⟩
end Go.Proofs.Ytncneoggnoiknaa.Il

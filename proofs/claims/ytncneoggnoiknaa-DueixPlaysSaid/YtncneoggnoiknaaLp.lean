/- Deeds: how a slice of them reads; the argument opened; the walk through Few. -/
import Derived.Test.YtncneoggnoiknaaLo
import Derived.Test.YtncneoggnoiknaaLx
import Derived.Deep.Slices
import Derived.Deep.Fields
import Derived.ChangeSame
namespace Go.Proofs.Ytncneoggnoiknaa.Du
open Go.ChangeShapes Go.WideShapes Go.ChangeAt Go.RowKit Go.Deep Sp Ut Me
/-- a deed: its kind, its entry, its second time -/
abbrev Dd := Int × E × Int
def Deeds (w : World) (v : Value) (l : List Dd) : Prop :=
  (l = [] ∧ ∃ a cap, v = .slice a 0 cap) ∨
  (0 < l.length ∧ ∃ b o cap, v = .slice (some ⟨b, o, none⟩) l.length cap ∧ b < w.heap.size ∧
    ∀ k (hk : k < l.length), (w.cell? ⟨b, o + k * 4, none⟩ = some (.int .u8 l[k].1) ∧ w.cell? ⟨b, o + k * 4 + 1, none⟩ = some (.int .i64 l[k].2.1.1) ∧ w.cell? ⟨b, o + k * 4 + 2, none⟩ = some (.string l[k].2.1.2) ∧ w.cell? ⟨b, o + k * 4 + 3, none⟩ = some (.int .i64 l[k].2.2)) ∧ 0 ≤ l[k].1 ∧ l[k].1 ≤ 255)
theorem Deeds.slice {w : World} {v : Value} {l : List Dd} (h : Deeds w v l) : ∃ a c, v = .slice a l.length c := by
  rcases h with ⟨rfl, a, cap, rfl⟩ | ⟨h0, b, o, cap, rfl, _⟩
  · exact ⟨a, cap, rfl⟩
  · exact ⟨_, cap, rfl⟩
section
variable {H : Type} {enc : TypeId × Value → H} {P : Program} {w : World}
theorem open_deeds {r : Reach} {b0 : Nat} {t e : TypeId} {f0 f1 f2 g0 g1 : Field} {v : Value} {d : DataW H} {p : List MemPlace} (ht : P.underlying t = some (.slice e)) (he : P.underlying e = some (.struct #[f0, f1, f2])) (ce : P.cellsOf e = 4)
    (o0 : f0.offset = 0) (o1 : f1.offset = 1) (o2 : f2.offset = 3) (c0 : P.cellsOf f0.type = 1) (c1 : P.cellsOf f1.type = 2) (c2 : P.cellsOf f2.type = 1) (u0 : P.underlying f0.type = some (.int .u8)) (u1 : P.underlying f1.type = some (.struct #[g0, g1])) (u2 : P.underlying f2.type = some (.int .i64))
    (p0 : g0.offset = 0) (p1 : g1.offset = 1) (k0 : P.cellsOf g0.type = 1) (k1 : P.cellsOf g1.type = 1) (v0 : P.underlying g0.type = some (.int .i64)) (v1 : P.underlying g1.type = some .string)
    (hv : Value.okWide P w r b0 t v) (h : DataW.Trod enc P w 0 (fun _ => true) true t v d p) : ∃ ds, Deeds w v ds := by
  obtain ⟨a0, l0, q0, rfl⟩ := okWide_slice ht hv
  obtain ⟨n, h⟩ := h
  rcases open_slice ht h with ⟨hc, _⟩ | ⟨a, len, cap, m, n, D, Pl, hcs, hb, hl, hm, hmm, hx, hi⟩
  · simp only [Value.cells, List.cons.injEq, and_true] at hc
    obtain ⟨rfl, rfl, rfl⟩ := Value.slice.inj hc
    exact ⟨[], .inl ⟨rfl, _, _, rfl⟩⟩
  · simp only [Value.cells, List.cons.injEq, and_true] at hcs
    obtain ⟨rfl, rfl, rfl⟩ := Value.slice.inj hcs
    simp only [if_true] at hmm
    subst hmm
    have key : ∀ i, i < l0 → ∃ (kd due : Int) (s : ByteArray) (to : Int), w.cell? (a.add (i * 4)) = some (.int .u8 kd) ∧ w.cell? ((a.add (i * 4)).add 1) = some (.int .i64 due) ∧ w.cell? ((a.add (i * 4)).add 2) = some (.string s) ∧ w.cell? ((a.add (i * 4)).add 3) = some (.int .i64 to) ∧ 0 ≤ kd ∧ kd ≤ 255 := by
      intro i hil
      obtain ⟨cs', hc, ht'⟩ := hi i (by omega)
      rw [ce] at hc
      obtain ⟨_, hcl, hat⟩ := World.cells?_some hc
      obtain ⟨ys, n', _, _, _, hyl, hf⟩ := DataW.trod_struct he ht'
      match cs', hcl with
      | [x0, x1, x2, x3], _ =>
        have hys : ∀ j (hj : j < ys.length), ys[j]? = some ys[j] := fun j hj => List.getElem?_eq_getElem hj
        have hyl3 : ys.length = 3 := hyl
        have h0 := (hf 0 f0 rfl).trans (hys 0 (by omega))
        have h1 := (hf 1 f1 rfl).trans (hys 1 (by omega))
        have h2 := (hf 2 f2 rfl).trans (hys 2 (by omega))
        rw [o0, c0] at h0
        rw [o1, c1] at h1
        rw [o2, c2] at h2
        obtain ⟨kd, e0, _, w0⟩ := DataW.trod_int u0 h0
        obtain ⟨to, e3, _, _⟩ := DataW.trod_int u2 h2
        obtain ⟨zs, n2, _, _, _, hzl, hg⟩ := DataW.trod_struct u1 h1
        have hzl2 : zs.length = 2 := hzl
        have g0' := (hg 0 g0 rfl).trans (List.getElem?_eq_getElem (by omega))
        have g1' := (hg 1 g1 rfl).trans (List.getElem?_eq_getElem (by omega))
        rw [p0, k0] at g0'
        rw [p1, k1] at g1'
        obtain ⟨due, e1, _, _⟩ := DataW.trod_int v0 g0'
        obtain ⟨s, e2, _, _⟩ := DataW.trod_string v1 g1'
        simp at e0 e1 e2 e3
        subst e0 e1 e2 e3
        have a0' := hat 0 (by omega)
        have a1' := hat 1 (by omega)
        have a2' := hat 2 (by omega)
        have a3' := hat 3 (by omega)
        have hk := bounds_u8 w0
        refine ⟨kd, due, s, to, ?_, a1', a2', a3', hk.1, hk.2⟩
        rw [show (a.add (i * 4)) = (a.add (i * 4)).add 0 from by simp [Addr.add]]
        exact a0'
    by_cases h0 : 0 < l0
    · obtain ⟨b, o, spot⟩ := a
      obtain ⟨kd, due, s, to, e0, _⟩ := key 0 h0
      have hspot : spot = none := by simpa [Addr.add] using World.cell?_spot e0
      subst hspot
      have hblk : b < w.heap.size := World.block_lt_of_cell? (a := (⟨b, o, none⟩ : Addr).add (0 * 4)) _ e0
      have key2 : ∀ i, i < l0 → ∃ (kd due : Int) (s : ByteArray) (to : Int), (w.cell? ⟨b, o + i * 4, none⟩ = some (.int .u8 kd) ∧ w.cell? ⟨b, o + i * 4 + 1, none⟩ = some (.int .i64 due) ∧ w.cell? ⟨b, o + i * 4 + 2, none⟩ = some (.string s) ∧ w.cell? ⟨b, o + i * 4 + 3, none⟩ = some (.int .i64 to)) ∧ 0 ≤ kd ∧ kd ≤ 255 := fun i hil => by
        obtain ⟨kd, due, s, to, s0, s1, s2, s3, s4, s5⟩ := key i hil
        rw [add_eq] at s0 s1 s2 s3
        rw [add_eq] at s1 s2 s3
        exact ⟨kd, due, s, to, ⟨s0, s1, s2, s3⟩, s4, s5⟩
      let ds : List Dd := (List.range l0).map fun i => if hil : i < l0 then ((key2 i hil).choose, ((key2 i hil).choose_spec.choose, (key2 i hil).choose_spec.choose_spec.choose), (key2 i hil).choose_spec.choose_spec.choose_spec.choose) else (0, (0, ByteArray.empty), 0)
      refine ⟨ds, .inr ⟨by simpa [ds] using h0, b, o, m, by simp [ds], hblk, fun i hi' => ?_⟩⟩
      have hi2 : i < l0 := by simpa [ds] using hi'
      have hd : ds[i] = ((key2 i hi2).choose, ((key2 i hi2).choose_spec.choose, (key2 i hi2).choose_spec.choose_spec.choose), (key2 i hi2).choose_spec.choose_spec.choose_spec.choose) := by simp [ds, hi2]
      rw [hd]
      exact (key2 i hi2).choose_spec.choose_spec.choose_spec.choose_spec
    · obtain rfl : l0 = 0 := by omega
      exact ⟨[], .inl ⟨rfl, _, _, rfl⟩⟩
end
/-- few and short -/
def fewD (l : List Dd) : Prop := l.length ≤ 80 ∧ ∀ d ∈ l, d.2.1.2.size ≤ 30
set_option maxHeartbeats 2000000 in
theorem few_any {w : World} {v : Value} {l : List Dd} (hl : Deeds w v l) : Calls Try.prog 7 #[v] w fun e w' => ((e = .returned (.bool true) ∧ fewD l) ∨ (e = .returned (.bool false) ∧ ¬ fewD l)) ∧ w = w' := by
  by_cases h80 : l.length ≤ 80
  · rcases hl with ⟨rfl, a, cap, rfl⟩ | ⟨h0, b, o, cap, rfl, hlt, hcell⟩
    · go_enter Try.func7, Try.ntmps7
      go_wp2
      go_rounds 1
      go_ret
      exact ⟨.inl ⟨rfl, by simp, fun d hd => by cases hd⟩, rfl⟩
    · have HC := Lib.hid hcell
      have i80 : (l.length : Int) ≤ 80 := by omega
      clear hcell
      go_enter Try.func7, Try.ntmps7
      go_wp2
      go_loopw [3] (fun q wr => ∃ k : Nat, k ≤ l.length ∧ q = .int .i64 k ∧ Hid (∀ d ∈ l.take k, d.2.1.2.size ≤ 30) ∧ w = wr) (fun q _ => l.length - (intOf q).toNat)
      case atStart => exact ⟨0, by omega, rfl, Lib.hid (fun d hd => by simp at hd), rfl⟩
      case round =>
        obtain ⟨k, hk1, rfl, hx, rfl⟩ := hrel
        by_cases hk : k < l.length
        · obtain ⟨⟨-, -, c2, -⟩, -⟩ := HC.out k hk
          have i2 : (k : Int) < (l.length : Int) := by omega
          obtain ⟨s, hs⟩ : ∃ s, l[k].2.1.2 = s := ⟨_, rfl⟩
          rw [hs] at c2
          have HS := Lib.hid hs
          clear hs
          by_cases h30 : s.size ≤ 30
          · go_wp2
            go_roundw
            case rel =>
              refine ⟨k + 1, by omega, by go_num, Lib.hid fun d hd => ?_, trivial⟩
              rw [List.take_succ_eq_append_getElem hk, List.mem_append, List.mem_singleton] at hd
              rcases hd with hd | rfl
              · exact hx.out d hd
              · rw [HS.out]; exact h30
            case measure => simp [intOf]; omega
          · go_wp2
            go_ret
            exact ⟨.inr ⟨rfl, fun hf => h30 (by rw [← HS.out]; exact hf.2 _ (List.getElem_mem hk))⟩, rfl⟩
        · obtain rfl : k = l.length := by omega
          go_wp2
          go_ret
          exact ⟨.inl ⟨rfl, h80, by have := hx.out; rwa [List.take_length] at this⟩, rfl⟩
  · obtain ⟨a, c, rfl⟩ := hl.slice
    clear hl
    go_enter Try.func7, Try.ntmps7
    go_wp2
    go_ret
    exact ⟨.inr ⟨rfl, fun hf => h80 hf.1⟩, rfl⟩
end Go.Proofs.Ytncneoggnoiknaa.Du

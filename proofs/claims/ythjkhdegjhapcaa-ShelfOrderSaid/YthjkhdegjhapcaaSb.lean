/- What it is for a slice value to read as a list of entries; the walks through the program's shelf that only read. -/
import Derived.Test.YthjkhdegjhapcaaSa
import Derived.Test.YthjkhdegjhapcaaSp
import Derived.OwnWalk
namespace Go.Proofs.Ythjkhdegjhapcaa.Sa
open Go.RowKit Sp
/-- The slice value v reads as the entries es. -/
def Ents (w : World) (v : Value) (es : List Ent) : Prop :=
  (es = [] ∧ ∃ a cap, v = .slice a 0 cap ∧ (a = none → cap = 0)) ∨
  (0 < es.length ∧ ∃ b o cap, v = .slice (some ⟨b, o, none⟩) es.length cap ∧ b < w.heap.size ∧ es.length ≤ cap ∧
    ∀ h (hh : h < es.length), w.cell? ⟨b, o + h * 2, none⟩ = some (.string es[h].1) ∧ w.cell? ⟨b, o + h * 2 + 1, none⟩ = some (.int .i64 es[h].2))
theorem Ents.below {w w' : World} {v : Value} {es : List Ent} (h : Ents w v es) (hb : Below w.heap.size w w') : Ents w' v es := by
  rcases h with h | ⟨h0, b, o, cap, rfl, hlt, hc, hcell⟩
  · exact .inl h
  · exact .inr ⟨h0, b, o, cap, rfl, Nat.lt_of_lt_of_le hlt hb.size, hc, fun h hh => ⟨(hb.cell (p := ⟨b, o + h * 2, none⟩) hlt).trans (hcell h hh).1, (hb.cell (p := ⟨b, o + h * 2 + 1, none⟩) hlt).trans (hcell h hh).2⟩⟩
theorem Ents.drewN {w : World} {v : Value} {es : List Ent} (h : Ents w v es) (n : Nat) : Ents (w.drewN n) v es := h
theorem bsearch_zero (a : Option Addr) (cap : Nat) (t : ByteArray) (w : World) :
    Calls Try.prog 26 #[.slice a 0 cap, .string t, .func (.func 27) #[] #[]] w fun e w' => e = .returned (.tuple #[.int .i64 0, .bool false]) ∧ Below w.heap.size w w' := by
  go_enter Try.func26, Try.ntmps26
  go_wp2
  go_rounds 1
  go_ret2
  exact ⟨rfl, Below.refl _ _⟩
theorem find_any {v : Value} {es : List Ent} (t : ByteArray) {w : World} (hE : Ents w v es) (hs : Sorted es) (hn : es.length ≤ 1000000) :
    Calls Try.prog 18 #[v, .string t] w fun e w' => e = .returned (.tuple #[.int .i64 (cnt es t), .bool (has es t)]) ∧ Below w.heap.size w w' := by
  rcases hE with ⟨rfl, a, cap, rfl, _⟩ | ⟨h0, b, o, cap, rfl, hlt, hc, hcell⟩
  · go_enter Try.func18, Try.ntmps18
    go_wp2_with (go_at_call 26; refine (bsearch_zero _ _ _ _).mono ?_; rintro e w1 ⟨rfl, hB1⟩)
    go_ret2
    exact ⟨rfl, hB1⟩
  · have H := Lib.hid (bsearch_any b o es.length cap (cnt es t) (fun h => (es.getD h default).1) (fun h => (es.getD h default).2) t w hlt hn (cnt_le es t)
      (fun h hh => by have e : es.getD h default = es[h] := by simp [List.getD, hh]
                      rw [e]; exact hcell h hh)
      (fun h hh => by have e : es.getD h default = es[h] := by simp [List.getD, hh]
                      show lt (es.getD h default).1 t = _
                      rw [e]; exact cnt_spec hs t h hh))
    have hf := Lib.hid (has_spec hs t)
    clear hcell
    go_enter Try.func18, Try.ntmps18
    go_wp2_with (go_at_call 26; refine H.out.mono ?_; rintro e w1 ⟨rfl, hB1⟩)
    go_ret2
    exact ⟨ret_ib rfl (by rw [hf.out, eq_iff]; rfl), hB1⟩
def getV (es : List Ent) (t : ByteArray) : Int := if has es t = true then (es.getD (cnt es t) default).2 else 0
theorem get_any {v : Value} {es : List Ent} (t : ByteArray) {w : World} (hE : Ents w v es) (hs : Sorted es) (hn : es.length ≤ 1000000) :
    Calls Try.prog 20 #[v, .string t] w fun e w' => e = .returned (.tuple #[.int .i64 (getV es t), .bool (has es t)]) ∧ Below w.heap.size w w' := by
  have F := Lib.hid (find_any t hE hs hn)
  cases hh : has es t
  · have hg := Lib.hid (show getV es t = 0 by unfold getV; rw [hh]; simp)
    go_enter Try.func20, Try.ntmps20
    go_wp2_with (go_at_call 18; refine F.out.mono ?_; rintro e w1 ⟨rfl, hB1⟩)
    go_ret2
    exact ⟨ret_ib hg.out.symm rfl, hB1⟩
  · have hc : cnt es t < es.length := by
      have := has_spec hs t
      rw [hh] at this
      cases hc : decide (cnt es t < es.length)
      · rw [hc] at this; simp at this
      · exact of_decide_eq_true hc
    have hg := Lib.hid (show getV es t = es[cnt es t].2 by unfold getV; rw [hh]; simp [List.getD, hc])
    rcases hE with ⟨rfl, _⟩ | ⟨h0, b, o, cap, rfl, hlt, hcap, hcell⟩
    · simp at hc
    · obtain ⟨_, c2⟩ := hcell (cnt es t) hc
      clear hcell
      go_enter Try.func20, Try.ntmps20
      go_wp2_with (go_at_call 18; refine F.out.mono ?_; rintro e w1 ⟨rfl, hB1⟩; have c2' := (hB1.cell (p := ⟨b, o + cnt es t * 2 + 1, none⟩) hlt).trans c2)
      go_ret2
      exact ⟨ret_ib hg.out.symm rfl, hB1⟩
end Go.Proofs.Ythjkhdegjhapcaa.Sa

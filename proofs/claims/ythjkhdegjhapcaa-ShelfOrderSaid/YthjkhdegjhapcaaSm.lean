/- A row that was made reads as its entries; the walk through errandlaw30.made. -/
import Derived.Test.YthjkhdegjhapcaaSl
import Derived.Test.YthjkhdegjhapcaaSq
namespace Go.Proofs.Ythjkhdegjhapcaa.Sa
open Go.RowKit Sp
theorem Ents_of_owns {w : World} {base E : Nat} {v : Value} {es : List Ent} (h : w.ownsRow base E 2 v es.length (cellsOf es)) : Ents w v es := by
  rcases h with ⟨_, ⟨rfl, hn⟩ | ⟨g, cap, cur, rfl, hb, hg, hc, hm, hs, ht⟩⟩
  · have : es = [] := List.eq_nil_of_length_eq_zero hn
    subst this
    exact .inl ⟨rfl, none, 0, rfl, fun _ => rfl⟩
  · by_cases h0 : 0 < es.length
    · refine .inr ⟨h0, g, 0, cap, rfl, ?_, hc, fun k hk => ?_⟩
      · rcases Nat.lt_or_ge g w.heap.size with h | h
        · exact h
        · rw [Array.getElem?_eq_none h] at hg; cases hg
      · have hk2 := cellsOf_get es k hk
        rw [← ht] at hk2
        have a1 := List.getElem?_take_some hk2.1
        have a2 := List.getElem?_take_some hk2.2
        rw [Array.getElem?_toList] at a1 a2
        constructor
        · simp [World.cell?, hg, a1]
        · simp [World.cell?, hg, a2]
    · have : es = [] := List.eq_nil_of_length_eq_zero (by omega)
      subst this
      exact .inl ⟨rfl, some ⟨g, 0, none⟩, cap, rfl, fun h => by cases h⟩
/-- A call made a list that reads as these entries, and nothing that was there has turned. -/
def Gives (es : List Ent) (w : World) (e : Ending) (w' : World) : Prop := ∃ v', e = .returned v' ∧ Ents w' v' es ∧ Below w.heap.size w w'
theorem Made.gives {E : TypeId} {es ds : List Ent} {w w' : World} {e : Ending} (h : Made E es w e w') (hd : es = ds) : Gives ds w e w' := by
  subst hd
  obtain ⟨v', h1, h2, h3⟩ := h
  exact ⟨v', h1, Ents_of_owns h2, h3⟩
/-- A call made two lists that read as these entries. -/
def Gives2 (es ds : List Ent) (w : World) (e : Ending) (w' : World) : Prop := ∃ v' u', e = .returned (.tuple #[v', u']) ∧ Ents w' v' es ∧ Ents w' u' ds ∧ Below w.heap.size w w'
theorem nb1 {wr W : World} (h : Below wr.drew.heap.size wr.drew W) : Below wr.heap.size wr W := ((Below.refl _ wr).drew).trans h
theorem made_any {v : Value} {es : List Ent} {w : World} (hE : Ents w v es) (hn : es.length ≤ 60) :
    Calls Try.prog 9 #[v] w (Gives2 (mk es) (mk es) w) := by
  rcases hE with ⟨rfl, a, cap, rfl, _⟩ | ⟨h0, b, o, cap, rfl, hlt, hcap, hcell⟩
  · go_enter Try.func9, Try.ntmps9
    go_wp2
    go_rounds 1
    go_ret2
    exact ⟨_, _, rfl, .inl ⟨rfl, _, _, rfl, fun _ => rfl⟩, .inl ⟨rfl, _, _, rfl, fun _ => rfl⟩, Below.refl _ _⟩
  · have HC := Lib.hid hcell
    clear hcell
    go_enter Try.func9, Try.ntmps9
    go_wp2
    go_loopw [4, 5, 6] (fun u x i wr => ∃ k : Nat, k ≤ es.length ∧ i = .int .i64 k ∧ Ents wr u (mk (es.take k)) ∧ Ents wr x (mk (es.take k)) ∧ Below w.heap.size w wr) (fun _ _ i _ => es.length - (intOf i).toNat)
    case atStart => exact ⟨0, by omega, rfl, .inl ⟨rfl, _, _, rfl, fun _ => rfl⟩, .inl ⟨rfl, _, _, rfl, fun _ => rfl⟩, Below.refl _ _⟩
    case round =>
      obtain ⟨k, k1, rfl, hA, hR, hB⟩ := hrel
      by_cases hk : k < es.length
      · have c1 := (hB.cell (p := ⟨b, o + k * 2, none⟩) hlt).trans (HC.out k hk).1
        have c2 := (hB.cell (p := ⟨b, o + k * 2 + 1, none⟩) hlt).trans (HC.out k hk).2
        have hs := Lib.hid (show mk (es.take (k + 1)) = ins es[k].1 es[k].2 (mk (es.take k)) by rw [take_snoc es k hk, mk_snoc])
        have hln : (mk (es.take k)).length ≤ 1000 := by have := mk_len (es.take k); rw [List.length_take] at this; omega
        have hln := Lib.hid hln
        have i2 : (k : Int) < (es.length : Int) := by omega
        have i3 : (0 : Int) ≤ (k : Int) := by omega
        have hbl : b < wr.heap.size := Nat.lt_of_lt_of_le hlt hB.size
        go_wp2
        go_region_held3 (fun w' => w'.cell? ⟨b, o + k * 2, none⟩ = some (.string es[k].1) ∧ w'.cell? ⟨b, o + k * 2 + 1, none⟩ = some (.int .i64 es[k].2)) (first | go_keep | exact ⟨(Below.cell (p := ⟨b, o + k * 2, none⟩) (B := wr.heap.size) (w := wr) (by go_grown) hbl).trans c1, (Below.cell (p := ⟨b, o + k * 2 + 1, none⟩) (B := wr.heap.size) (w := wr) (by go_grown) hbl).trans c2⟩)
          (first
            | (go_at_call 24; refine (put_any _ _ (hA.below (by go_grown)) (mk_sorted _) hln.out).mono ?_; intro e1 W1 hGa; obtain ⟨va, rfl, ha, hBa⟩ := hGa.gives (pput_ins _ _ (mk_sorted _)); first | (have hB1 := nb1 hBa; clear hBa) | have hB2 := hB1.trans (hBa.mono hB1.size))
            | (go_at_call 25; refine (rPut_any _ _ (hR.below (by go_grown)) hln.out).mono ?_; intro e1 W2 hGb; obtain ⟨vb, rfl, hb, hBb⟩ := hGb.gives (rput_ins _ _ (mk_sorted _)); first | (have hB1 := nb1 hBb; clear hBb) | have hB2 := hB1.trans (hBb.mono hB1.size)))
        all_goals
          go_wp2
          go_roundw
          case rel => rw [← hs.out] at ha hb; first | exact ⟨k + 1, by omega, by go_num, ha.below hBb, hb, hB.trans (hB2.mono hB.size)⟩ | exact ⟨k + 1, by omega, by go_num, ha, hb.below hBa, hB.trans (hB2.mono hB.size)⟩
          case measure => simp [intOf]; omega
      · have e : es.take k = es := List.take_of_length_le (by omega)
        rw [e] at hA hR
        go_wp2
        go_ret2
        exact ⟨_, _, rfl, hA, hR, hB⟩
end Go.Proofs.Ythjkhdegjhapcaa.Sa

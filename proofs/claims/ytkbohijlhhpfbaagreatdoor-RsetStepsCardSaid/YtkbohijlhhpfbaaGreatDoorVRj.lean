import Derived.Test.YtkbohijlhhpfbaaGreatDoorVYa
import Derived.Test.YtkbohijlhhpfbaaGreatDoorVUt
import Derived.Test.YtkbohijlhhpfbaaGreatDoorVCwb
import Derived.Maps.AppendAt
/- Slices of integers and of weekdays as they lie in memory; the walks through slices.Contains over them. -/
namespace Go.Proofs.YtkbohijlhhpfbaaGreatDoor.Ra
open Go.RowKit Ru Ut Cw
def Ints (w : World) (v : Value) (l : List Int) : Prop :=
 (l = [] ∧ ∃ a cap, v = .slice a 0 cap ∧ (a = none → cap = 0)) ∨
 (0 < l.length ∧ ∃ b o cap, v = .slice (some ⟨b, o, none⟩) l.length cap ∧ b < w.heap.size ∧ l.length ≤ cap ∧ ∀ i (h : i < l.length), w.cell? ⟨b, o + i, none⟩ = some (.int .i64 l[i]))
theorem Ints.below {w w' : World} {v : Value} {l : List Int} (h : Ints w v l) (hb : Below w.heap.size w w') : Ints w' v l := by
 rcases h with h | ⟨h0, b, o, cap, rfl, hlt, hc, hcell⟩
 ·exact .inl h
 ·exact .inr ⟨h0, b, o, cap, rfl, Nat.lt_of_lt_of_le hlt hb.size, hc, fun i h => (hb.cell (p := ⟨b, o + i, none⟩) hlt).trans (hcell i h)⟩
def Days (w : World) (v : Value) (l : List (Int × Int)) : Prop :=
 (l = [] ∧ ∃ a cap, v = .slice a 0 cap ∧ (a = none → cap = 0)) ∨
 (0 < l.length ∧ ∃ b o cap, v = .slice (some ⟨b, o, none⟩) l.length cap ∧ b < w.heap.size ∧ l.length ≤ cap ∧ ∀ i (h : i < l.length), w.cell? ⟨b, o + i * 2, none⟩ = some (.int .i64 l[i].1) ∧ w.cell? ⟨b, o + i * 2 + 1, none⟩ = some (.int .i64 l[i].2))
theorem Days.below {w w' : World} {v : Value} {l : List (Int × Int)} (h : Days w v l) (hb : Below w.heap.size w w') : Days w' v l := by
 rcases h with h | ⟨h0, b, o, cap, rfl, hlt, hc, hcell⟩
 ·exact .inl h
 ·exact .inr ⟨h0, b, o, cap, rfl, Nat.lt_of_lt_of_le hlt hb.size, hc, fun i h => ⟨(hb.cell (p := ⟨b, o + i * 2, none⟩) hlt).trans (hcell i h).1, (hb.cell (p := ⟨b, o + i * 2 + 1, none⟩) hlt).trans (hcell i h).2⟩⟩
theorem index_any {w : World} {v : Value} {l : List Int} (x : Int) (hl : Ints w v l) (hn : l.length ≤ 1000000) :
  Calls Tryz.prog 86 #[v, .int .i64 x] w fun e w' => (∃ i : Int, e = .returned (.int .i64 i) ∧ decide (0 ≤ i) = decide (x ∈ l)) ∧ w = w' := by
 rcases hl with ⟨rfl, a, cap, rfl, ha⟩ | ⟨h0, b, o, cap, rfl, hlt, hcap, hcell⟩
 ·go_enter Tryz.func86, Tryz.ntmps86
  go_wp2
  refine wp_loop_rounds 1 ?_
  rw [rounds_succ]
  go_wp2
  go_ret
  exact ⟨⟨_, rfl, by simp⟩, rfl⟩
 ·have HC := Lib.hid hcell
  clear hcell
  go_enter Tryz.func86, Tryz.ntmps86
  go_wp2
  go_loopw [8] (fun i wr => ∃ k : Nat, k ≤ l.length ∧ i = .int .i64 k ∧ Hid (x ∉ l.take k) ∧ w = wr) (fun i _ => l.length - (intOf i).toNat)
  case atStart => exact ⟨0, by omega, rfl, Lib.hid (by simp), rfl⟩
  case round =>
   obtain ⟨k, k1, rfl, hx, rfl⟩ := hrel
   by_cases hk : k < l.length
   ·have c1 := HC.out k hk
    have i2 : (k : Int) < (l.length : Int) := by omega
    have i3 : (0 : Int) ≤ (k : Int) := by omega
    by_cases he : x = l[k]
    ·have hq : (x == l[k]) = true := by simp [he]
     have hm : x ∈ l := by rw [he]; exact List.getElem_mem hk
     have hm := Lib.hid hm
     clear he
     go_wp2
     go_ret
     exact ⟨⟨_, rfl, by rw [decide_eq_true (by omega), decide_eq_true hm.out]⟩, rfl⟩
    ·have hq : (x == l[k]) = false := by simp [he]
     have hx2 := Lib.hid (show x ∉ l.take (k + 1) by
      rw [List.take_succ_eq_append_getElem hk, List.mem_append]
      rintro (h | h)
      ·exact hx.out h
      ·exact he (List.mem_singleton.1 h))
     clear he hx
     go_wp2
     go_roundw
     case rel => exact ⟨k + 1, by omega, by go_num, hx2, trivial⟩
     case measure => simp [intOf]; omega
   ·have hm := Lib.hid (show x ∉ l by have := hx.out; rwa [List.take_of_length_le (by omega)] at this)
    go_wp2
    go_ret
    exact ⟨⟨_, rfl, by rw [decide_eq_false hm.out]; rfl⟩, rfl⟩
theorem contains_any {w : World} {v : Value} {l : List Int} (x : Int) (hl : Ints w v l) (hn : l.length ≤ 1000000) :
  Calls Tryz.prog 42 #[v, .int .i64 x] w fun e w' => e = .returned (.bool (decide (x ∈ l))) ∧ w = w' := by
 have F := Lib.hid (index_any x hl hn)
 have hv : ∃ a m c, v = .slice a m c := by
  rcases hl with ⟨_, a, cap, rfl, _⟩ | ⟨_, b, o, cap, rfl, _⟩
  ·exact ⟨_, _, _, rfl⟩
  ·exact ⟨_, _, _, rfl⟩
 obtain ⟨a, m, c, rfl⟩ := hv
 clear hl
 go_enter Tryz.func42, Tryz.ntmps42
 go_wp2_with (first | (go_at_call 86; refine (F.out).mono ?_; rintro e w' ⟨⟨i, rfl, hi⟩, rfl⟩))
 go_ret
 exact ⟨rfl, rfl⟩
theorem has_any {w : World} {v : Value} {l : List Int} (x : Int) (hl : Ints w v l) (hn : l.length ≤ 1000000) :
  Calls Tryz.prog 173 #[v, .int .i64 x] w fun e w' => e = .returned (.bool (decide (x ∈ l))) ∧ w = w' := by
 have F := Lib.hid (contains_any x hl hn)
 have hv : ∃ a m c, v = .slice a m c := by
  rcases hl with ⟨_, a, cap, rfl, _⟩ | ⟨_, b, o, cap, rfl, _⟩
  ·exact ⟨_, _, _, rfl⟩
  ·exact ⟨_, _, _, rfl⟩
 obtain ⟨a, m, c, rfl⟩ := hv
 clear hl
 go_enter Tryz.func173, Tryz.ntmps173
 go_wp2_with (first | (go_at_call 42; refine (F.out).mono ?_; rintro e w' ⟨rfl, rfl⟩))
 go_ret
 exact ⟨rfl, rfl⟩
end Go.Proofs.YtkbohijlhhpfbaaGreatDoor.Ra
/- Slices of integers that the call itself makes. -/
namespace Go.Proofs.YtkbohijlhhpfbaaGreatDoor.Ra
open Go.RowKit Ut
theorem infoInt : (Tryz.prog.info? 3).map (fun i => (i.zero, i.size, i.bytes)) = some (some (.int .i64 0), 1, 8) := by kernel_rfl
def ic (l : List Int) : List Value := l.map (Value.int .i64)
theorem ic_length (l : List Int) : (ic l).length = l.length := by simp [ic]
theorem ic_snoc (l : List Int) (z : Int) : ic (l ++ [z]) = ic l ++ [.int .i64 z] := by simp [ic]
theorem ic_append (l m : List Int) : ic (l ++ m) = ic l ++ ic m := by simp [ic]
def OwnI (w : World) (B : Nat) (v : Value) (l : List Int) : Prop := w.ownsRow B 3 1 v l.length (ic l)
theorem OwnI.nil (w : World) (B : Nat) : OwnI w B (.slice none 0 0) [] := World.ownsRow_nil _ _ _ _
theorem ownsRow_below {w W : World} {B E sz : Nat} {v : Value} {n : Nat} {xs : List Value} (h : w.ownsRow B E sz v n xs) (hB : Below w.heap.size w W) : W.ownsRow B E sz v n xs := by
 refine ⟨h.1, h.2.imp id ?_⟩
 rintro ⟨g, cap, cur, h1, h2, h3, h4⟩
 exact ⟨g, cap, cur, h1, h2, (hB.block g (Array.getElem?_eq_some_iff.1 h3).1).trans h3, h4⟩
theorem OwnI.below {w W : World} {B : Nat} {v : Value} {l : List Int} (h : OwnI w B v l) (hB : Below w.heap.size w W) : OwnI W B v l := ownsRow_below h hB
theorem OwnI.ints {w : World} {B : Nat} {v : Value} {l : List Int} (h : OwnI w B v l) : Ints w v l := by
 by_cases h0 : l.length = 0
 ·obtain rfl : l = [] := List.length_eq_zero_iff.1 h0
  refine .inl ⟨rfl, ?_⟩
  rcases h.2 with ⟨rfl, _⟩ | ⟨g, cap, cur, rfl, _⟩
  ·exact ⟨none, 0, rfl, fun _ => rfl⟩
  ·exact ⟨_, cap, rfl, fun h => by cases h⟩
 ·obtain ⟨g, cap, rfl, hb, hg, hc, _, hcell⟩ := ownsRow_pos h (by omega)
  exact .inr ⟨by omega, g, 0, cap, rfl, hg, hc, fun i hi => by
   have := hcell i (.int .i64 l[i]) (by simp [ic, hi])
   simpa using this⟩
theorem OwnI.slice {w : World} {B : Nat} {v : Value} {l : List Int} (h : OwnI w B v l) : ∃ a c, v = .slice a l.length c := by
 rcases h.2 with ⟨rfl, h0⟩ | ⟨g, cap, cur, rfl, _⟩
 ·exact ⟨none, 0, by rw [h0]⟩
 ·exact ⟨_, _, rfl⟩
theorem push_int {ops : Array Oper} {rest : List Oper} {o : Oper} {a : Act} {Q : Exit → Act → World → Prop} {W : World} {T' : TypeId} {z : Int} (hgd : o.guard = none) (s x : Operand)
  (ho : o.op = .call { callee := .builtin .append, args := #[s, x], argTypes := #[24, 24] }) (B : Nat) (v : Value) (l : List Int) (hs : a.eval s = v) (hown : OwnI W B v l)
  (hx : a.eval x = .slice (some ⟨W.heap.size, 0, none⟩) 1 1) (hn : l.length ≤ 1000000) (hB : B ≤ W.heap.size)
  (h : ∀ v' w', OwnI w' B v' (l ++ [z]) → Below B W w' → wpList Tryz.prog ops Q rest (a.put o.dst v') w') : wpList Tryz.prog ops Q (o :: rest) a (W.alloc (.cells #[.int .i64 z] T')) := by
 obtain ⟨i0, hi, hz0, hz1, hz2⟩ := info_parts infoInt
 refine wpList_append_own (W.alloc (.cells #[.int .i64 z] T')) hgd s x _ ho B 3 i0 (.int .i64 0) 1 8 Tryz.underlying24 hi hz0 hz1 hz2 rfl (by decide) v l.length (ic l) hs (World.ownsRow.alloc hown _)
  ⟨W.heap.size, 0, none⟩ 1 1 [.int .i64 z] hx rfl (cell_one_new _ _ _) (by simp [Value.oneCell']) (by unfold maxLen; omega) (by omega) (by simp; omega) fun v' w' h1 h2 _ => ?_
 refine h v' w' ?_ (((Below.refl B W).alloc hB _).grown h2 (by simp; omega) fun k hk => (hown.lt k hk).1)
 unfold OwnI
 rw [ic_snoc, List.length_append]
 exact h1
def Gives (w : World) (l : List Int) (e : Ending) (w' : World) : Prop := ∃ v, e = .returned v ∧ OwnI w' w.heap.size v l ∧ Below w.heap.size w w'
theorem OwnI.base {w : World} {B B' : Nat} {v : Value} {l : List Int} (h : OwnI w B v l) (hb : B' ≤ B) : OwnI w B' v l := ownsRow_base h hb
end Go.Proofs.YtkbohijlhhpfbaaGreatDoor.Ra

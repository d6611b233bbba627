/- Rows of texts and of edges as they lie in memory. -/
import Derived.Test.YthelkkbjflohgaaProg
import Derived.Test.YthelkkbjflohgaaGa
import Derived.Test.YthelkkbjflohgaaBase
import Derived.Test.YthelkkbjflohgaaUt
import Derived.WalkKit
import Derived.Deep.QuietTactic
import Derived.BigQuiet
import Derived.Handy
import Derived.Lib.Hide
import Derived.Maps.AppendAt
import Derived.Laws.StructEq
namespace Go.Proofs.Ythelkkbjflohgaa.Ds
open Go.RowKit Ut Gr
theorem eqS (a b : ByteArray) : (a.toList == b.toList) = decide (a = b) := by
  rw [ByteArray.toList_eq, ByteArray.toList_eq, Bool.eq_iff_iff, beq_iff_eq, decide_eq_true_iff]
  exact ⟨fun h => ByteArray.ext (Array.toList_inj.mp h), fun h => by rw [h]⟩
theorem eqS_no {a b : ByteArray} (h : ¬ a = b) : (a.toList == b.toList) = false := by rw [eqS]; exact decide_eq_false h
/-- The slice value v reads as the texts l. -/
def Strs (w : World) (v : Value) (l : List ByteArray) : Prop :=
  (l = [] ∧ ∃ a cap, v = .slice a 0 cap ∧ (a = none → cap = 0)) ∨
  (0 < l.length ∧ ∃ b o cap, v = .slice (some ⟨b, o, none⟩) l.length cap ∧ b < w.heap.size ∧ l.length ≤ cap ∧ ∀ i (h : i < l.length), w.cell? ⟨b, o + i, none⟩ = some (.string l[i]))
theorem Strs.below {w w' : World} {v : Value} {l : List ByteArray} (h : Strs w v l) (hb : Below w.heap.size w w') : Strs w' v l := by
  rcases h with h | ⟨h0, b, o, cap, rfl, hlt, hc, hcell⟩
  · exact .inl h
  · exact .inr ⟨h0, b, o, cap, rfl, Nat.lt_of_lt_of_le hlt hb.size, hc, fun i h => (hb.cell (p := ⟨b, o + i, none⟩) hlt).trans (hcell i h)⟩
theorem Strs.slice {w : World} {v : Value} {l : List ByteArray} (h : Strs w v l) : ∃ a c, v = .slice a l.length c := by
  rcases h with ⟨rfl, a, c, rfl, -⟩ | ⟨-, b, o, c, rfl, -⟩
  · exact ⟨a, c, rfl⟩
  · exact ⟨_, c, rfl⟩
/-- The slice value v reads as the edges l. -/
def Edgs (w : World) (v : Value) (l : List (ByteArray × ByteArray)) : Prop :=
  (l = [] ∧ ∃ a cap, v = .slice a 0 cap ∧ (a = none → cap = 0)) ∨
  (0 < l.length ∧ ∃ b o cap, v = .slice (some ⟨b, o, none⟩) l.length cap ∧ b < w.heap.size ∧ l.length ≤ cap ∧ ∀ i (h : i < l.length), w.cell? ⟨b, o + i * 2, none⟩ = some (.string l[i].1) ∧ w.cell? ⟨b, o + i * 2 + 1, none⟩ = some (.string l[i].2))
theorem Edgs.below {w w' : World} {v : Value} {l : List (ByteArray × ByteArray)} (h : Edgs w v l) (hb : Below w.heap.size w w') : Edgs w' v l := by
  rcases h with h | ⟨h0, b, o, cap, rfl, hlt, hc, hcell⟩
  · exact .inl h
  · exact .inr ⟨h0, b, o, cap, rfl, Nat.lt_of_lt_of_le hlt hb.size, hc, fun i h => ⟨(hb.cell (p := ⟨b, o + i * 2, none⟩) hlt).trans (hcell i h).1, (hb.cell (p := ⟨b, o + i * 2 + 1, none⟩) hlt).trans (hcell i h).2⟩⟩
theorem Edgs.slice {w : World} {v : Value} {l : List (ByteArray × ByteArray)} (h : Edgs w v l) : ∃ a c, v = .slice a l.length c := by
  rcases h with ⟨rfl, a, c, rfl, -⟩ | ⟨-, b, o, c, rfl, -⟩
  · exact ⟨a, c, rfl⟩
  · exact ⟨_, c, rfl⟩
theorem ownsRow_below {w W : World} {B E sz : Nat} {v : Value} {n : Nat} {xs : List Value} (h : w.ownsRow B E sz v n xs) (hB : Below w.heap.size w W) : W.ownsRow B E sz v n xs := by
  refine ⟨h.1, h.2.imp id ?_⟩
  rintro ⟨g, cap, cur, h1, h2, h3, h4⟩
  exact ⟨g, cap, cur, h1, h2, (hB.block g (Array.getElem?_eq_some_iff.1 h3).1).trans h3, h4⟩
theorem infoStr : (Try.prog.info? 9).map (fun i => (i.zero, i.size, i.bytes)) = some (some (.string ByteArray.empty), 1, 16) := by kernel_rfl
theorem infoE : (Try.prog.info? 44).map (fun i => (i.zero, i.size, i.bytes)) = some (some (.agg #[.string ByteArray.empty, .string ByteArray.empty]), 2, 32) := by kernel_rfl
theorem infoR : (Try.prog.info? 25).map (fun i => (i.zero, i.size, i.bytes)) = some (some (.agg #[.string ByteArray.empty, .string ByteArray.empty]), 2, 32) := by kernel_rfl
def sc (l : List ByteArray) : List Value := l.map Value.string
theorem sc_length (l : List ByteArray) : (sc l).length = l.length := by simp [sc]
theorem sc_append (l m : List ByteArray) : sc (l ++ m) = sc l ++ sc m := by simp [sc]
/-- the call's own row of texts from block B on -/
def OwnS (w : World) (B : Nat) (v : Value) (l : List ByteArray) : Prop := w.ownsRow B 9 1 v l.length (sc l)
theorem OwnS.nil (w : World) (B : Nat) : OwnS w B (.slice none 0 0) [] := World.ownsRow_nil _ _ _ _
theorem OwnS.below {w W : World} {B : Nat} {v : Value} {l : List ByteArray} (h : OwnS w B v l) (hB : Below w.heap.size w W) : OwnS W B v l := ownsRow_below h hB
theorem OwnS.base {w : World} {B B' : Nat} {v : Value} {l : List ByteArray} (h : OwnS w B v l) (hb : B' ≤ B) : OwnS w B' v l := ownsRow_base h hb
theorem OwnS.slice {w : World} {B : Nat} {v : Value} {l : List ByteArray} (h : OwnS w B v l) : ∃ a c, v = .slice a l.length c := by
  rcases h.2 with ⟨rfl, h0⟩ | ⟨g, cap, cur, rfl, _⟩
  · exact ⟨none, 0, by rw [h0]⟩
  · exact ⟨_, _, rfl⟩
theorem OwnS.pos {w : World} {B : Nat} {v : Value} {l : List ByteArray} (h : OwnS w B v l) (h0 : 0 < l.length) : ∃ b cap, v = .slice (some ⟨b, 0, none⟩) l.length cap ∧ B ≤ b ∧ b < w.heap.size ∧ l.length ≤ cap ∧ ∀ i z, l[i]? = some z → w.cell? ⟨b, i, none⟩ = some (.string z) := by
  obtain ⟨g, cap, rfl, hb, hg, hc, _, hcell⟩ := ownsRow_pos h h0
  exact ⟨g, cap, rfl, hb, hg, hc, fun i z hz => hcell i _ (by unfold sc; rw [List.getElem?_map, hz]; rfl)⟩
theorem OwnS.strs {w : World} {B : Nat} {v : Value} {l : List ByteArray} (h : OwnS w B v l) : Strs w v l := by
  by_cases h0 : l.length = 0
  · obtain rfl : l = [] := List.length_eq_zero_iff.1 h0
    refine .inl ⟨rfl, ?_⟩
    rcases h.2 with ⟨rfl, _⟩ | ⟨g, cap, cur, rfl, _⟩
    · exact ⟨none, 0, rfl, fun _ => rfl⟩
    · exact ⟨_, cap, rfl, fun h => by cases h⟩
  · obtain ⟨g, cap, rfl, hb, hg, hc, hcell⟩ := h.pos (by omega)
    exact .inr ⟨by omega, g, 0, cap, rfl, hg, hc, fun i hi => by rw [Nat.zero_add]; exact hcell i _ (List.getElem?_eq_getElem hi)⟩
theorem push_str {ops : Array Oper} {rest : List Oper} {o : Oper} {a : Act} {Q : Exit → Act → World → Prop} {W : World} {T' : TypeId} {z : ByteArray} (hgd : o.guard = none) (s x : Operand)
    (ho : o.op = .call { callee := .builtin .append, args := #[s, x], argTypes := #[23, 23] }) (B : Nat) (v : Value) (l : List ByteArray) (hs : a.eval s = v) (hown : OwnS W B v l)
    (hx : a.eval x = .slice (some ⟨W.heap.size, 0, none⟩) 1 1) (hn : l.length ≤ 1000000) (hB : B ≤ W.heap.size)
    (h : ∀ v' w', OwnS w' B v' (l ++ [z]) → Below B W w' → wpList Try.prog ops Q rest (a.put o.dst v') w') : wpList Try.prog ops Q (o :: rest) a (W.alloc (.cells #[.string z] T')) := by
  obtain ⟨i0, hi, hz0, hz1, hz2⟩ := info_parts infoStr
  refine wpList_append_own (W.alloc (.cells #[.string z] T')) hgd s x _ ho B 9 i0 _ 1 16 Try.underlying23 hi hz0 hz1 hz2 rfl (by decide) v l.length (sc l) hs (World.ownsRow.alloc hown _)
    ⟨W.heap.size, 0, none⟩ 1 1 [.string z] hx rfl (cell_one_new _ _ _) (by simp [Value.oneCell']) (by unfold maxLen; omega) (by omega) (by simp; omega) fun v' w' h1 h2 _ => ?_
  refine h v' w' ?_ (((Below.refl B W).alloc hB _).grown h2 (by simp; omega) fun k hk => (hown.lt k hk).1)
  unfold OwnS
  rw [sc_append, List.length_append]
  exact h1
def GivesS (w : World) (l : List ByteArray) (e : Ending) (w' : World) : Prop := ∃ v, e = .returned v ∧ OwnS w' w.heap.size v l ∧ Below w.heap.size w w'
def ec : List (ByteArray × ByteArray) → List Value
  | [] => []
  | d :: l => .string d.1 :: .string d.2 :: ec l
theorem ec_length : ∀ l, (ec l).length = l.length * 2
  | [] => rfl
  | d :: l => by simp only [ec, List.length_cons, ec_length l]; omega
theorem ec_append : ∀ l m, ec (l ++ m) = ec l ++ ec m
  | [], _ => rfl
  | d :: l, m => by simp only [List.cons_append, ec, ec_append l m]
theorem ec_at : ∀ (l : List (ByteArray × ByteArray)) (i : Nat) (h : i < l.length), (ec l)[i * 2]? = some (.string l[i].1) ∧ (ec l)[i * 2 + 1]? = some (.string l[i].2)
  | d :: l, 0, _ => by simp [ec]
  | d :: l, i + 1, h => by
    have := ec_at l i (by simpa using h)
    simp only [ec, List.getElem_cons_succ]
    rw [show (i + 1) * 2 = i * 2 + 1 + 1 by omega, show (i * 2 + 1 + 1) + 1 = (i * 2 + 1) + 1 + 1 by omega]
    simpa using this
/-- the call's own row of edges (of the type T) from block B on -/
def OwnE (T : TypeId) (w : World) (B : Nat) (v : Value) (l : List (ByteArray × ByteArray)) : Prop := w.ownsRow B T 2 v l.length (ec l)
theorem OwnE.nil (T : TypeId) (w : World) (B : Nat) : OwnE T w B (.slice none 0 0) [] := World.ownsRow_nil _ _ _ _
theorem OwnE.below {T : TypeId} {w W : World} {B : Nat} {v : Value} {l : List (ByteArray × ByteArray)} (h : OwnE T w B v l) (hB : Below w.heap.size w W) : OwnE T W B v l := ownsRow_below h hB
theorem OwnE.base {T : TypeId} {w : World} {B B' : Nat} {v : Value} {l : List (ByteArray × ByteArray)} (h : OwnE T w B v l) (hb : B' ≤ B) : OwnE T w B' v l := ownsRow_base h hb
theorem OwnE.slice {T : TypeId} {w : World} {B : Nat} {v : Value} {l : List (ByteArray × ByteArray)} (h : OwnE T w B v l) : ∃ a c, v = .slice a l.length c := by
  rcases h.2 with ⟨rfl, h0⟩ | ⟨g, cap, cur, rfl, _⟩
  · exact ⟨none, 0, by rw [h0]⟩
  · exact ⟨_, _, rfl⟩
theorem OwnE.edgs {T : TypeId} {w : World} {B : Nat} {v : Value} {l : List (ByteArray × ByteArray)} (h : OwnE T w B v l) : Edgs w v l := by
  by_cases h0 : l.length = 0
  · obtain rfl : l = [] := List.length_eq_zero_iff.1 h0
    refine .inl ⟨rfl, ?_⟩
    rcases h.2 with ⟨rfl, _⟩ | ⟨g, cap, cur, rfl, _⟩
    · exact ⟨none, 0, rfl, fun _ => rfl⟩
    · exact ⟨_, cap, rfl, fun h => by cases h⟩
  · obtain ⟨g, cap, rfl, hb, hg, hc, _, hcell⟩ := ownsRow_pos h (by omega)
    refine .inr ⟨by omega, g, 0, cap, rfl, hg, hc, fun i hi => ?_⟩
    have hd := ec_at l i hi
    rw [Nat.zero_add]
    exact ⟨hcell _ _ hd.1, hcell _ _ hd.2⟩
theorem push_edge {ops : Array Oper} {rest : List Oper} {o : Oper} {a : Act} {Q : Exit → Act → World → Prop} {W : World} {T' E S : TypeId} {p q : ByteArray}
    (hE : (Try.prog.info? E).map (fun i => (i.zero, i.size, i.bytes)) = some (some (.agg #[.string ByteArray.empty, .string ByteArray.empty]), 2, 32)) (hS : Try.prog.underlying S = some (.slice E)) (hgd : o.guard = none) (s x : Operand)
    (ho : o.op = .call { callee := .builtin .append, args := #[s, x], argTypes := #[S, S] }) (B : Nat) (v : Value) (l : List (ByteArray × ByteArray)) (hs : a.eval s = v) (hown : OwnE E W B v l)
    (hx : a.eval x = .slice (some ⟨W.heap.size, 0, none⟩) 1 1) (hn : l.length ≤ 1000000) (hB : B ≤ W.heap.size)
    (h : ∀ v' w', OwnE E w' B v' (l ++ [(p, q)]) → Below B W w' → wpList Try.prog ops Q rest (a.put o.dst v') w') : wpList Try.prog ops Q (o :: rest) a (W.alloc (.cells #[.string p, .string q] T')) := by
  obtain ⟨i0, hi, hz0, hz1, hz2⟩ := info_parts hE
  refine wpList_append_own (W.alloc (.cells #[.string p, .string q] T')) hgd s x _ ho B E i0 _ 2 32 hS hi hz0 hz1 hz2 rfl (by decide) v l.length (ec l) hs (World.ownsRow.alloc hown _)
    ⟨W.heap.size, 0, none⟩ 1 1 [.string p, .string q] hx rfl ?_ (by simp [Value.oneCell']) (by unfold maxLen; omega) (by omega) (by simp; omega) fun v' w' h1 h2 _ => ?_
  · intro j u hj
    match j, hj with
    | 0, hj => simp at hj; subst hj; simp [Addr.add]
    | 1, hj => simp at hj; subst hj; simp [Addr.add]
  refine h v' w' ?_ (((Below.refl B W).alloc hB _).grown h2 (by simp; omega) fun k hk => (hown.lt k hk).1)
  unfold OwnE
  rw [ec_append, List.length_append]
  exact h1
def GivesE (T : TypeId) (w : World) (l : List (ByteArray × ByteArray)) (e : Ending) (w' : World) : Prop := ∃ v, e = .returned v ∧ OwnE T w' w.heap.size v l ∧ Below w.heap.size w w'
end Go.Proofs.Ythelkkbjflohgaa.Ds

/- What DepsGrows asks, in plain lists; and contracts for it. -/
import Derived.Test.YthelkkbjflohgaaHp
namespace Go.Proofs.Ythelkkbjflohgaa.Gr
variable {α : Type}
theorem leads_snoc {l : List (α × α)} {u v a b : α} (h : Leads (l ++ [(u, v)]) a b) : Leads l a b ∨ ((a = u ∨ Leads l a u) ∧ (b = v ∨ Leads l v b)) := by
  have hm : ∀ {a b : α}, (a, b) ∈ l ++ [(u, v)] → (a, b) ∈ l ∨ (a = u ∧ b = v) := fun h => by
    rw [List.mem_append, List.mem_singleton] at h
    rcases h with h | h
    · exact .inl h
    · exact .inr (Prod.mk.inj h)
  induction h with
  | one h =>
    rcases hm h with h' | ⟨rfl, rfl⟩
    · exact .inl (.one h')
    · exact .inr ⟨.inl rfl, .inl rfl⟩
  | more h _ ih =>
    rcases hm h with h' | ⟨rfl, rfl⟩
    · rcases ih with ih | ⟨i1, i2⟩
      · exact .inl (.more h' ih)
      · refine .inr ⟨.inr ?_, i2⟩
        rcases i1 with rfl | i1
        · exact .one h'
        · exact .more h' i1
    · rcases ih with ih | ⟨_, i2⟩
      · exact .inr ⟨.inl rfl, .inr ih⟩
      · exact .inr ⟨.inl rfl, i2⟩
/-- an edge that closes no circle makes none -/
theorem none_snoc {l : List (α × α)} {u v : α} (h : ∀ x, ¬ Leads l x x) (hne : u ≠ v) (hw : ¬ Leads l v u) (x : α) : ¬ Leads (l ++ [(u, v)]) x x := fun k => by
  rcases leads_snoc k with k | ⟨k1, k2⟩
  · exact h x k
  · rcases k1 with rfl | k1
    · rcases k2 with rfl | k2
      · exact hne rfl
      · exact hw k2
    · rcases k2 with rfl | k2
      · exact hw k1
      · exact hw (k2.trans k1)
end Go.Proofs.Ythelkkbjflohgaa.Gr
namespace Go.Proofs.Ythelkkbjflohgaa.Ds
open Go.RowKit Ut Gr Go.Maps
/-- an edge was added: the row is new -/
def GivesK (w : World) (l : List (ByteArray × ByteArray)) (p q : ByteArray) (e : Ending) (w' : World) : Prop :=
  ∃ b o cap, e = .returned (.tuple #[.slice (some ⟨b, o, none⟩) (l.length + 1) cap, .int .i64 0]) ∧ Edgs w' (.slice (some ⟨b, o, none⟩) (l.length + 1) cap) (l ++ [(p, q)]) ∧
    w'.cell? ⟨b, o + l.length * 2, none⟩ = some (.string p) ∧ w'.cell? ⟨b, o + l.length * 2 + 1, none⟩ = some (.string q) ∧ l.length + 1 ≤ cap ∧ (w.heap.size ≤ b ∧ b < w'.heap.size) ∧ Below w.heap.size w w'
theorem addK_any {w : World} {v : Value} {l : List (ByteArray × ByteArray)} {p q : ByteArray} (hl : Edgs w v l) (hn : l.length ≤ 1000) (hz : Short l) (hx : p.size ≤ maxLen) (h1 : (p, q) ∉ l) (h2 : p ≠ q) (h3 : ¬ Leads l q p) : Calls Try.prog 21 #[v, .agg #[.string p, .string q]] w (GivesK w l p q) := by
  have hr : addL l (p, q) = (l ++ [(p, q)], 0) := by
    unfold addL
    rw [if_neg (by rw [isIn_no h1]; decide), if_neg (fun h => by
      rcases loops_iff.1 h with h | h
      · exact h2 h.symm
      · exact h3 h)]
  obtain ⟨a0, c0, rfl⟩ := hl.slice
  refine (add2_any p q hl hn hz hx).mono ?_
  rw [hr]
  rintro e w' ⟨u, rfl, hO, hE, hB⟩
  obtain ⟨a1, c1, rfl⟩ := hE.slice
  have hlen : (l ++ [(p, q)]).length = l.length + 1 := by simp
  have hO := hO (fun h => by
    have := (Value.slice.inj h).2.1
    rw [hlen] at this
    omega)
  rcases hE with ⟨h, -⟩ | ⟨h0, b, o, cap, hv, hlt, hcap, hcell⟩
  · simp at h
  have hc := hcell l.length (by simp)
  simp at hc
  have hbl := (show World.ownsRow w' w.heap.size _ _ _ _ _ from hO).lt b (by rw [hv]; rfl)
  refine ⟨b, o, cap, by rw [hv, hlen], .inr ⟨h0, b, o, cap, by rw [hlen], hlt, hcap, hcell⟩, hc.1, hc.2, by rw [← hlen]; exact hcap, hbl, hB⟩
/-- no edge was added: k says why -/
def GivesJ (w : World) (v : Value) (l : List (ByteArray × ByteArray)) (k : Int) (e : Ending) (w' : World) : Prop :=
  ∃ a c, e = .returned (.tuple #[.slice a l.length c, .int .i64 k]) ∧ Edgs w' (.slice a l.length c) l ∧ (∀ g, (Value.slice a l.length c).ownBlock = some g → Value.slice a l.length c = v ∨ (w.heap.size ≤ g ∧ g < w'.heap.size)) ∧ Below w.heap.size w w'
theorem addJ_any {w : World} {v : Value} {l : List (ByteArray × ByteArray)} {p q : ByteArray} {k : Int} (hl : Edgs w v l) (hn : l.length ≤ 1000) (hz : Short l) (hx : p.size ≤ maxLen) (hr : addL l (p, q) = (l, k)) : Calls Try.prog 21 #[v, .agg #[.string p, .string q]] w (GivesJ w v l k) := by
  refine (add2_any p q hl hn hz hx).mono ?_
  rw [hr]
  rintro e w' ⟨u, rfl, hO, hE, hB⟩
  obtain ⟨a, c, rfl⟩ := hE.slice
  refine ⟨a, c, rfl, hE, fun g hg => ?_, hB⟩
  by_cases h : Value.slice a l.length c = v
  · exact .inl h
  · exact .inr ((show World.ownsRow w' w.heap.size _ _ _ _ _ from hO h).lt g hg)
theorem acycT_any {w : World} {v : Value} {l : List (ByteArray × ByteArray)} (hl : Edgs w v l) (hn : l.length ≤ 1000) (hz : Short l) (hc : ∀ x, ¬ Leads l x x) : Calls Try.prog 15 #[v] w fun e w' => e = .returned (.bool true) ∧ Below w.heap.size w w' := by
  have := acyclic_any hl hn hz
  rwa [acyc_iff.2 hc] at this
/-- an order in which each name stands behind what it depends on -/
def GivesB (w : World) (l : List (ByteArray × ByteArray)) (e : Ending) (w' : World) : Prop :=
  ∃ o x, e = .returned (.tuple #[x, .bool true]) ∧ Strs w' x o ∧ (∀ s ∈ o, s.size ≤ maxLen) ∧ o.length ≤ 1000 ∧ o.Pairwise (fun x y => x ≠ y) ∧ (∀ i j (hj : j < o.length) (hi : i ≤ j), ¬ Leads l o[i] o[j]) ∧ Below w.heap.size w w'
theorem orderB_any {w : World} {v u : Value} {l : List (ByteArray × ByteArray)} {names : List ByteArray} (hl : Edgs w v l) (hn : l.length ≤ 1000) (hz : Short l) (hs : Strs w u names) (hm : names.length ≤ 1000) (hnz : ∀ s ∈ names, s.size ≤ maxLen) (hc : ∀ x, ¬ Leads l x x) : Calls Try.prog 10 #[v, u] w (GivesB w l) := by
  refine (order_any hl hn hz hs hm hnz).mono ?_
  rintro e w' ⟨o, b, x, rfl, hR, hO, hB⟩
  obtain ⟨rfl, h1, h2⟩ := run_acyclic hc hR
  exact ⟨o, x, rfl, hO.strs, fun s h => hnz s (run_mem hR s h), Nat.le_trans (run_len hR (t := names) (fun x h => h)) hm, h1, h2, hB⟩
theorem strs_take {w : World} {b cap : Nat} {l : List ByteArray} (n : Nat) (h : Strs w (.slice (some ⟨b, 0, none⟩) l.length cap) l) (hn : 0 < n) (hl : n ≤ l.length) : Strs w (.slice (some ⟨b, 0, none⟩) n cap) (l.take n) := by
  rcases h with ⟨rfl, -⟩ | ⟨h0, b', o', cap', hv, hlt, hc, hcell⟩
  · simp at hl; omega
  obtain ⟨h1, -, h2⟩ := Value.slice.inj hv
  subst h2
  obtain ⟨rfl, rfl, -⟩ := Addr.mk.inj (Option.some.inj h1)
  have ht : (l.take n).length = n := by rw [List.length_take]; omega
  refine .inr ⟨by omega, b, 0, cap, by rw [ht], hlt, by omega, fun i hi => ?_⟩
  rw [List.getElem_take]
  exact hcell i (by omega)
theorem Edgs.grown {w w' : World} {v : Value} {l : List (ByteArray × ByteArray)} {row : Option Nat} (h : Edgs w v l) (hg : w.grownBy w' row) (hne : ∀ g, v.ownBlock = some g → some g ≠ row) : Edgs w' v l := by
  rcases h with h | ⟨h0, b, o, cap, rfl, hlt, hc, hcell⟩
  · exact .inl h
  · exact .inr ⟨h0, b, o, cap, rfl, Nat.lt_of_lt_of_le hlt hg.size, hc, fun i h => ⟨cell_grown (hcell i h).1 hg (hne b rfl), cell_grown (hcell i h).2 hg (hne b rfl)⟩⟩
/-- two texts more behind a row of texts: where the row lies then -/
theorem push2_at {ops : Array Oper} {rest : List Oper} {o : Oper} {a : Act} {Q : Exit → Act → World → Prop} {W : World} {T' : TypeId} {p q : ByteArray} (hgd : o.guard = none) (s x : Operand)
    (ho : o.op = .call { callee := .builtin .append, args := #[s, x], argTypes := #[23, 23] }) (B : Nat) (v : Value) (l : List ByteArray) (hs : a.eval s = v) (hown : OwnS W B v l)
    (hx : a.eval x = .slice (some ⟨W.heap.size, 0, none⟩) 2 2) (hn : l.length ≤ 1000000) (hB : B ≤ W.heap.size)
    (h : ∀ v' w', OwnS w' B v' (l ++ [p, q]) → (W.alloc (.cells #[.string p, .string q] T')).grownBy w' v.ownBlock → (v'.ownBlock = v.ownBlock ∨ v'.ownBlock = some (W.heap.size + 1)) → wpList Try.prog ops Q rest (a.put o.dst v') w') : wpList Try.prog ops Q (o :: rest) a (W.alloc (.cells #[.string p, .string q] T')) := by
  obtain ⟨i0, hi, hz0, hz1, hz2⟩ := info_parts infoStr
  refine wpList_append_own_at (W.alloc (.cells #[.string p, .string q] T')) hgd s x _ ho B 9 i0 _ 1 16 Try.underlying23 hi hz0 hz1 hz2 rfl (by decide) v l.length (sc l) hs (World.ownsRow.alloc hown _)
    ⟨W.heap.size, 0, none⟩ 2 2 [.string p, .string q] hx rfl ?_ (by simp [Value.oneCell']) (by unfold maxLen; omega) (by omega) (by simp; omega) fun v' w' h1 h2 _ h4 => ?_
  · intro j u hj
    match j, hj with
    | 0, hj => simp at hj; subst hj; simp [Addr.add]
    | 1, hj => simp at hj; subst hj; simp [Addr.add]
  refine h v' w' ?_ h2 (by rwa [World.size_alloc] at h4)
  unfold OwnS
  rw [sc_append, List.length_append]
  exact h1
/-- the graph and the names, so far -/
def Grown (w wr : World) (gv nv : Value) (G : List (ByteArray × ByteArray)) (M : List ByteArray) : Prop :=
  Edgs wr gv G ∧ OwnS wr w.heap.size nv M ∧ Below w.heap.size w wr ∧ (∀ e ∈ G, e.1.size ≤ 30 ∧ e.2.size ≤ 30) ∧ (∀ s ∈ M, s.size ≤ 30) ∧ (∀ x, ¬ Leads G x x) ∧ ∀ g, gv.ownBlock = some g → g < wr.heap.size ∧ some g ≠ nv.ownBlock
theorem grown_start {w wr : World} (h : Below w.heap.size w wr) : Grown w wr (.slice none 0 0) (.slice none 0 0) [] [] :=
  ⟨.inl ⟨rfl, none, 0, rfl, fun _ => rfl⟩, OwnS.nil _ _, h, by simp, by simp, fun x k => by obtain ⟨b, hb⟩ := k.first; simp at hb, fun g h => by cases h⟩
theorem Grown.edgs {w wr : World} {gv nv : Value} {G : List (ByteArray × ByteArray)} {M : List ByteArray} (h : Grown w wr gv nv G M) : Edgs wr gv G := h.1
theorem Grown.short {w wr : World} {gv nv : Value} {G : List (ByteArray × ByteArray)} {M : List ByteArray} (h : Grown w wr gv nv G M) : Short G := short_of h.2.2.2.1
theorem Grown.sizes {w wr : World} {gv nv : Value} {G : List (ByteArray × ByteArray)} {M : List ByteArray} (h : Grown w wr gv nv G M) (s : ByteArray) (hs : s ∈ M) : s.size ≤ maxLen := by have := h.2.2.2.2.1 s hs; unfold maxLen; omega
theorem Grown.below {w wr w' : World} {gv nv : Value} {G : List (ByteArray × ByteArray)} {M : List ByteArray} (h : Grown w wr gv nv G M) (hB : Below wr.heap.size wr w') : Grown w w' gv nv G M :=
  ⟨h.1.below hB, h.2.1.below hB, Below.next h.2.2.1 hB, h.2.2.2.1, h.2.2.2.2.1, h.2.2.2.2.2.1, fun g hg => ⟨Nat.lt_of_lt_of_le (h.2.2.2.2.2.2 g hg).1 hB.size, (h.2.2.2.2.2.2 g hg).2⟩⟩
theorem Grown.next2 {w wr w' : World} {gv gv' nv : Value} {G G' : List (ByteArray × ByteArray)} {M : List ByteArray} (h : Grown w wr gv nv G M) (h2 : (∀ e ∈ G', e.1.size ≤ 30 ∧ e.2.size ≤ 30) ∧ ∀ x, ¬ Leads G' x x) (hB : Below wr.heap.size wr w') (hE : Edgs w' gv' G')
    (hd : ∀ g, gv'.ownBlock = some g → gv' = gv ∨ (wr.heap.size ≤ g ∧ g < w'.heap.size)) : Grown w w' gv' nv G' M :=
  ⟨hE, h.2.1.below hB, Below.next h.2.2.1 hB, h2.1, h.2.2.2.2.1, h2.2, fun g hg => by
    rcases hd g hg with rfl | ⟨h3, h4⟩
    · exact ⟨Nat.lt_of_lt_of_le (h.2.2.2.2.2.2 g hg).1 hB.size, (h.2.2.2.2.2.2 g hg).2⟩
    · refine ⟨h4, fun e => ?_⟩
      have := ((show World.ownsRow wr w.heap.size _ _ _ _ _ from h.2.1).lt g e.symm).2
      omega⟩
theorem Grown.next {w wr w' : World} {gv gv' nv : Value} {G : List (ByteArray × ByteArray)} {M : List ByteArray} (h : Grown w wr gv nv G M) (hB : Below wr.heap.size wr w') (hE : Edgs w' gv' G)
    (hd : ∀ g, gv'.ownBlock = some g → gv' = gv ∨ (wr.heap.size ≤ g ∧ g < w'.heap.size)) : Grown w w' gv' nv G M := h.next2 ⟨h.2.2.2.1, h.2.2.2.2.2.1⟩ hB hE hd
theorem Grown.more {w wr : World} {gv nv : Value} {G : List (ByteArray × ByteArray)} {M : List ByteArray} {p q : ByteArray} (h : Grown w wr gv nv G M) (hpq : p.size ≤ 30 ∧ q.size ≤ 30) (hne : p ≠ q) (hw : ¬ Leads G q p) :
    (∀ e ∈ G ++ [(p, q)], e.1.size ≤ 30 ∧ e.2.size ≤ 30) ∧ ∀ x, ¬ Leads (G ++ [(p, q)]) x x :=
  ⟨fun e he => by
    rw [List.mem_append, List.mem_singleton] at he
    rcases he with he | rfl
    · exact h.2.2.2.1 e he
    · exact hpq, none_snoc h.2.2.2.2.2.1 hne hw⟩
theorem Grown.push {w wr w' : World} {gv nv nv' : Value} {G : List (ByteArray × ByteArray)} {M : List ByteArray} {p q : ByteArray} {T' : TypeId} (h : Grown w wr gv nv G M) (hown : OwnS w' w.heap.size nv' (M ++ [p, q]))
    (hg : (wr.alloc (.cells #[.string p, .string q] T')).grownBy w' nv.ownBlock) (hl : nv'.ownBlock = nv.ownBlock ∨ nv'.ownBlock = some (wr.heap.size + 1)) (hpq : p.size ≤ 30 ∧ q.size ≤ 30) : Grown w w' gv nv' G (M ++ [p, q]) := by
  have hs := hg.size
  rw [World.size_alloc] at hs
  refine ⟨(h.1.below (Below.next_alloc (Below.refl _ _) _)).grown hg (fun g k => (h.2.2.2.2.2.2 g k).2), hown, ?_, h.2.2.2.1, fun s hs => ?_, h.2.2.2.2.2.1, fun g k => ⟨by have := (h.2.2.2.2.2.2 g k).1; omega, ?_⟩⟩
  · refine (Below.next_alloc h.2.2.1 _).grown hg (by rw [World.size_alloc]; have := h.2.2.1.size; omega) (fun j hj => ((show World.ownsRow wr w.heap.size _ _ _ _ _ from h.2.1).lt j hj).1)
  · rw [List.mem_append] at hs
    rcases hs with hs | hs
    · exact h.2.2.2.2.1 s hs
    · simp at hs
      rcases hs with rfl | rfl
      · exact hpq.1
      · exact hpq.2
  · have h2 := h.2.2.2.2.2.2 g k
    rcases hl with hl | hl
    · rw [hl]; exact h2.2
    · rw [hl]; intro e; injection e; omega
end Go.Proofs.Ythelkkbjflohgaa.Ds

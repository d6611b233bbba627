/- The iterator over a day's seconds: the walk (printed by gen_within.py). -/
import Derived.Test.YtndicgfafdhieaaTb
namespace Go.Proofs.Ytndicgfafdhieaa.Tm
open Go.RowKit Go.Shelf Ut Ra
attribute [local go_sem] Oper.semAt_some
def secOut (f t h m : Int) (ss : List Int) : List Int := (ss.map fun s => h * 3600 + m * 60 + s).filter fun x => decide (f ≤ x) && decide (x < t)
def minOut (f t h : Int) (ms ss : List Int) : List Int := ms.flatMap fun m => secOut f t h m ss
def hourOut (f t h : Int) (ms ss : List Int) : List Int := if (h + 1) * 3600 ≤ f ∨ t ≤ h * 3600 then [] else minOut f t h ms ss
def dayOut (f t : Int) (hs ms ss : List Int) : List Int := hs.flatMap fun h => hourOut f t h ms ss
theorem sec_in {f t h m s : Int} {ss : List Int} (h1 : f ≤ h * 3600 + m * 60 + s) (h2 : h * 3600 + m * 60 + s < t) : secOut f t h m (ss ++ [s]) = secOut f t h m ss ++ [h * 3600 + m * 60 + s] := by
  unfold secOut; rw [List.map_append, List.filter_append]; simp [h1, h2]
theorem sec_out {f t h m s : Int} {ss : List Int} (h1 : ¬ (f ≤ h * 3600 + m * 60 + s ∧ h * 3600 + m * 60 + s < t)) : secOut f t h m (ss ++ [s]) = secOut f t h m ss := by
  unfold secOut; rw [List.map_append, List.filter_append]
  simp only [List.map_cons, List.map_nil, List.filter_cons, List.filter_nil]
  rw [if_neg (by simp; omega), List.append_nil]
theorem min_snoc (f t h : Int) (ms : List Int) (m : Int) (ss : List Int) : minOut f t h (ms ++ [m]) ss = minOut f t h ms ss ++ secOut f t h m ss := by unfold minOut; simp
theorem day_snoc (f t : Int) (hs : List Int) (h : Int) (ms ss : List Int) : dayOut f t (hs ++ [h]) ms ss = dayOut f t hs ms ss ++ hourOut f t h ms ss := by unfold dayOut; simp
theorem flat_le {α β : Type} (g : α → List β) (c : Nat) (hg : ∀ x, (g x).length ≤ c) : ∀ l : List α, (l.flatMap g).length ≤ l.length * c
  | [] => by simp
  | x :: l => by
    have := flat_le g c hg l
    have := hg x
    rw [List.flatMap_cons, List.length_append, List.length_cons, Nat.add_mul]
    omega
theorem sec_le (f t h m : Int) (ss : List Int) : (secOut f t h m ss).length ≤ ss.length := by
  unfold secOut
  exact Nat.le_trans (List.length_filter_le _ _) (by simp)
theorem min_le (f t h : Int) (ms ss : List Int) : (minOut f t h ms ss).length ≤ ms.length * ss.length := flat_le _ _ (fun m => sec_le f t h m ss) ms
theorem hour_le (f t h : Int) (ms ss : List Int) : (hourOut f t h ms ss).length ≤ ms.length * ss.length := by
  unfold hourOut
  split
  · simp
  · exact min_le f t h ms ss
theorem day_le (f t : Int) (hs ms ss : List Int) : (dayOut f t hs ms ss).length ≤ hs.length * (ms.length * ss.length) := flat_le _ _ (fun h => hour_le f t h ms ss) hs
theorem out_le {f t h m : Int} {hs ms ms' ss ss' : List Int} (h1 : hs.length ≤ 100) (h2 : ms'.length ≤ 100) (h3 : ss'.length ≤ 100) (h4 : ms.length ≤ 100) (h5 : ss.length ≤ 100) : (dayOut f t hs ms ss ++ minOut f t h ms' ss ++ secOut f t h m ss').length ≤ 2000000 := by
  rw [List.length_append, List.length_append]
  have a1 := day_le f t hs ms ss
  have a2 := min_le f t h ms' ss
  have a3 := sec_le f t h m ss'
  have b1 := Nat.mul_le_mul h4 h5
  have b2 := Nat.mul_le_mul h1 b1
  have b3 := Nat.mul_le_mul h2 h5
  omega
/-- the numbers of a list of small ones -/
def fv (p : List Few) : List Int := p.map (·.1)
theorem fv_snoc (p : List Few) (x : Few) : fv (p ++ [x]) = fv p ++ [x.1] := by simp [fv]
theorem fv_length (p : List Few) : (fv p).length = p.length := by simp [fv]
/-- what a loop over the iterator may hold to: J, and the blocks that its rounds may turn -/
structure Mine (B : Nat) (J : List Int → World → Prop) (own : World → Nat → Prop) : Prop where
  stays : ∀ pre W W' row, J pre W → W.grownBy W' row → (∀ r, row = some r → B ≤ r ∧ ∃ o : Obj, W.heap[r]? = some o ∧ o.isCells = false) → J pre W'
  owns : ∀ W W' row, B ≤ W.heap.size → W.grownBy W' row → (∀ r, row = some r → B ≤ r ∧ ∃ o : Obj, W.heap[r]? = some o ∧ o.isCells = false) → ∀ b, own W' b → own W b
  lies : ∀ pre W, J pre W → ∀ b, own W b → b < W.heap.size ∧ (b < B ∨ ∃ o : Obj, W.heap[b]? = some o ∧ o.isCells = true)
/-- behind a round -/
def After (own : World → Nat → Prop) (W W' : World) : Prop := W.heap.size ≤ W'.heap.size ∧ (∀ b, own W' b → own W b ∨ W.heap.size ≤ b) ∧ ∀ b, b < W.heap.size → ¬ own W b → W'.heap[b]? = W.heap[b]?
/-- the blocks of L lie as they lay in W0, and no round may turn them -/
def Held (L : List Nat) (own : World → Nat → Prop) (W0 W : World) : Prop := KeepsL L W0 W ∧ ∀ b ∈ L, ¬ own W b
theorem Held.own {B B' : Nat} {J : List Int → World → Prop} {own : World → Nat → Prop} {L : List Nat} {W0 : World} (hM : Mine B J own) (hB : B ≤ W0.heap.size) (hB' : W0.heap.size ≤ B') (hL : ∀ b ∈ L, b < W0.heap.size) {β : Type} : OwnFrom B' (fun (_ : β) W => Held L own W0 W) :=
  fun _ W W' row h hg hr => ⟨⟨Nat.le_trans h.1.1 hg.size, fun b hb => (hg.block b (by have := hL b hb; have := h.1.1; omega) (fun e => by have := (hr b e.symm).1; have := hL b hb; omega)).trans (h.1.2 b hb)⟩,
    fun b hb ho => h.2 b hb (hM.owns W W' row (by have := h.1.1; omega) hg (fun r e => ⟨by have := (hr r e).1; omega, (hr r e).2⟩) b ho)⟩
theorem Mine.from {B B' : Nat} {J : List Int → World → Prop} {own : World → Nat → Prop} (hM : Mine B J own) (hB : B ≤ B') {β : Type} (g : β → List Int) : OwnFrom B' (fun s W => J (g s) W) :=
  fun s W W' row h hg hr => hM.stays (g s) W W' row h hg (fun r e => ⟨by have := (hr r e).1; omega, (hr r e).2⟩)
theorem Mine.alloc {B : Nat} {J : List Int → World → Prop} {own : World → Nat → Prop} (hM : Mine B J own) {pre : List Int} {W : World} (h : J pre W) (o : Obj) : J pre (W.alloc o) :=
  hM.stays pre W _ none h (World.grownBy_alloc W o none) (fun r e => by cases e)
theorem Mine.owned {B : Nat} {J : List Int → World → Prop} {own : World → Nat → Prop} (hM : Mine B J own) {W : World} (hB : B ≤ W.heap.size) (o : Obj) {b : Nat} (h : ¬ own W b) : ¬ own (W.alloc o) b :=
  fun k => h (hM.owns W _ none hB (World.grownBy_alloc W o none) (fun r e => by cases e) b k)
theorem Held.alloc {B : Nat} {J : List Int → World → Prop} {own : World → Nat → Prop} {L : List Nat} {W0 W : World} (hM : Mine B J own) (hB : B ≤ W0.heap.size) (hL : ∀ b ∈ L, b < W0.heap.size) (h : Held L own W0 W) (o : Obj) : Held L own W0 (W.alloc o) :=
  Held.own hM hB (Nat.le_refl _) hL (β := Unit) () W _ none h (World.grownBy_alloc W o none) (fun r e => by cases e)
/-- a block that has just been laid -/
theorem Mine.new {B : Nat} {J : List Int → World → Prop} {own : World → Nat → Prop} (hM : Mine B J own) {pre : List Int} {W : World} (h : J pre W) (hB : B ≤ W.heap.size) (o : Obj) : ¬ own (W.alloc o) W.heap.size :=
  hM.owned hB o (fun k => Nat.lt_irrefl _ (hM.lies pre W h _ k).1)
theorem After.held {own : World → Nat → Prop} {L : List Nat} {W0 W W' : World} (h : After own W W') (hL : ∀ b ∈ L, b < W0.heap.size) (k : Held L own W0 W) : Held L own W0 W' :=
  ⟨⟨Nat.le_trans k.1.1 h.1, fun b hb => (h.2.2 b (by have := hL b hb; have := k.1.1; omega) (k.2 b hb)).trans (k.1.2 b hb)⟩, fun b hb ho => by
    rcases h.2.1 b ho with ho | ho
    · exact k.2 b hb ho
    · have := hL b hb; have := k.1.1; omega⟩
theorem After.keepsL {own : World → Nat → Prop} {L : List Nat} {W0 W W' : World} (h : After own W W') (hL : ∀ b ∈ L, b < W0.heap.size) (k : Held L own W0 W) : KeepsL L W W' :=
  ⟨h.1, fun b hb => h.2.2 b (by have := hL b hb; have := k.1.1; omega) (k.2 b hb)⟩
theorem After.keepsFrom {B B0 : Nat} {J : List Int → World → Prop} {own : World → Nat → Prop} (hM : Mine B J own) {pre : List Int} {W W' : World} (hJ : J pre W) (h : After own W W') (hB : B ≤ B0) : KeepsFrom B0 W W' :=
  ⟨h.1, fun k o hk ho hc => (h.2.2 k (Array.getElem?_eq_some_iff.1 ho).1 (fun hw => by
    rcases (hM.lies pre W hJ k hw).2 with h1 | ⟨o', h1, h2⟩
    · omega
    · rw [ho] at h1; cases h1; rw [hc] at h2; cases h2)).trans ho⟩
theorem KeepsFrom.up {B B' : Nat} {X Z : World} (h : KeepsFrom B X Z) (hB : B ≤ B') : KeepsFrom B' X Z := ⟨h.size, fun k o hk ho hc => h.same k o (Nat.le_trans hB hk) ho hc⟩
theorem KeepsL.alloc {L : List Nat} {W : World} (hL : ∀ b ∈ L, b < W.heap.size) (o : Obj) : KeepsL L W (W.alloc o) := ⟨by simp, fun b hb => Below.heap_alloc W o b (hL b hb)⟩
theorem KeepsL.sub {L L' : List Nat} {A B : World} (h : KeepsL L A B) (hs : ∀ b ∈ L', b ∈ L) : KeepsL L' A B := ⟨h.1, fun b hb => h.2 b (hs b hb)⟩
theorem IntsL.sub {L L' : List Nat} {W : World} {v : Value} {l : List Int} (h : IntsL L W v l) (hs : ∀ b ∈ L, b ∈ L') : IntsL L' W v l := by
  rcases h with h | ⟨h0, b, o, c, rfl, hb, hc, hcell⟩
  · exact .inl h
  · exact .inr ⟨h0, b, o, c, rfl, hs b hb, hc, hcell⟩
/-- the box T holds the choices of hours, minutes, seconds -/
def TimesAt (W : World) (T : Nat) (vh : Value) (ah : Nat) (vm : Value) (am : Nat) (vs : Value) (as_ : Nat) : Prop :=
  W.cell? ⟨T, 0, none⟩ = some vh ∧ W.cell? ⟨T, 1, none⟩ = some (.int .i64 ah) ∧ W.cell? ⟨T, 2, none⟩ = some vm ∧ W.cell? ⟨T, 3, none⟩ = some (.int .i64 am) ∧ W.cell? ⟨T, 4, none⟩ = some vs ∧ W.cell? ⟨T, 5, none⟩ = some (.int .i64 as_)
theorem TimesAt.keep {L : List Nat} {W W' : World} {T : Nat} {vh vm vs : Value} {ah am as_ : Nat} (h : TimesAt W T vh ah vm am vs as_) (k : KeepsL L W W') (hT : T ∈ L) : TimesAt W' T vh ah vm am vs as_ :=
  ⟨k.cell hT h.1, k.cell hT h.2.1, k.cell hT h.2.2.1, k.cell hT h.2.2.2.1, k.cell hT h.2.2.2.2.1, k.cell hT h.2.2.2.2.2⟩
/-- what within's closure has captured: the choices, and the stretch -/
def Caught (L : List Nat) (W : World) (T Bf Bt : Nat) (f t : Int) (vh : Value) (ah : Nat) (lh : List Int) (vm : Value) (am : Nat) (lm : List Int) (vs : Value) (as_ : Nat) (ls : List Int) : Prop :=
  (T ∈ L ∧ Bf ∈ L ∧ Bt ∈ L) ∧ TimesAt W T vh ah vm am vs as_ ∧ (W.cell? ⟨Bf, 0, none⟩ = some (.int .i64 f) ∧ W.cell? ⟨Bt, 0, none⟩ = some (.int .i64 t)) ∧ IntsL L W vh lh ∧ IntsL L W vm lm ∧ IntsL L W vs ls
theorem Caught.keep {L : List Nat} {W W' : World} {T Bf Bt : Nat} {f t : Int} {vh vm vs : Value} {ah am as_ : Nat} {lh lm ls : List Int} (h : Caught L W T Bf Bt f t vh ah lh vm am lm vs as_ ls) (k : KeepsL L W W') : Caught L W' T Bf Bt f t vh ah lh vm am lm vs as_ ls :=
  ⟨h.1, h.2.1.keep k h.1.1, ⟨k.cell h.1.2.1 h.2.2.1.1, k.cell h.1.2.2 h.2.2.1.2⟩, h.2.2.2.1.keep k, h.2.2.2.2.1.keep k, h.2.2.2.2.2.keep k⟩
theorem Caught.sub {L L' : List Nat} {W : World} {T Bf Bt : Nat} {f t : Int} {vh vm vs : Value} {ah am as_ : Nat} {lh lm ls : List Int} (h : Caught L W T Bf Bt f t vh ah lh vm am lm vs as_ ls) (hs : ∀ b ∈ L, b ∈ L') : Caught L' W T Bf Bt f t vh ah lh vm am lm vs as_ ls :=
  ⟨⟨hs _ h.1.1, hs _ h.1.2.1, hs _ h.1.2.2⟩, h.2.1, h.2.2.1, h.2.2.2.1.sub hs, h.2.2.2.2.1.sub hs, h.2.2.2.2.2.sub hs⟩
end Go.Proofs.Ytndicgfafdhieaa.Tm

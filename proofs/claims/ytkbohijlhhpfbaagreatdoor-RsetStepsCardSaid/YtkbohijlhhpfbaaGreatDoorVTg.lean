/- A range over the day's iterator: the law of the loop, where a round adds to a row of the caller's own. -/
import Derived.Test.YtkbohijlhhpfbaaGreatDoorVTd
import Derived.Maps.OwnIn
namespace Go.Proofs.YtkbohijlhhpfbaaGreatDoor.Tm
open Go.RowKit Go.Shelf Ut Ra
theorem mine_put {B : Nat} {J : List Int → World → Prop} {own : World → Nat → Prop} (hM : Mine B J own) {pre : List Int} {W : World} {l : Nat} {o o' : Obj} (hJ : J pre W) (hl : W.heap[l]? = some o) (ho : o.isCells = false) (hB : B ≤ l) : J pre (W.putObj l o') :=
 hM.stays pre W _ (some l) hJ (grownBy_putObj' W l o') (fun r e => by cases e; exact ⟨hB, o, hl, ho⟩)
theorem own_put {B : Nat} {J : List Int → World → Prop} {own : World → Nat → Prop} (hM : Mine B J own) {W : World} {l : Nat} {o o' : Obj} (hB' : B ≤ W.heap.size) (hl : W.heap[l]? = some o) (ho : o.isCells = false) (hB : B ≤ l) {b : Nat} (h : own (W.putObj l o') b) : own W b :=
 hM.owns W _ (some l) hB' (grownBy_putObj' W l o') (fun r e => by cases e; exact ⟨hB, o, hl, ho⟩) b h
def minePost (own : World → Nat → Prop) (J : List Int → World → Prop) (xs : List Int) (W : World) : Exit → Act → World → Prop
 | .normal, _, W' => J xs W' ∧ After own W W'
 | _, _, _ => False
theorem wpIn_range_mine {F : Fence} {n N : Nat} {P : Program} {g : Operand} {ps : Array Tmp} {assign body : Code} {Q : Exit → Act → World → Prop} {a : Act} {w : World}
  (hro : F.round = none) (h1 : 1 ≤ n) {gf : Nat} {lb : Array Value} (hg : a.eval g = .func (.func gf) #[] lb) (hFg : F.fn gf) (eg : ∀ args w, (callFunc gf args).run P w = .ok (.enter gf args) w)
  (hps : ps.size = 1) (I : List Int → World → Prop) (own : World → Nat → Prop) (out : List Int) (hM : Mine w.heap.size I own)
  (hiter : ∀ (lp : Nat) (J : List Int → World → Prop) (W : World), Below w.heap.size w W → Mine W.heap.size J own → (∀ b, own W b → own w b) →
   (∀ m pre x W1, J pre W1 → pre.length ≤ N → YieldAt F m P lp #[.int .i64 x] W1 fun e W' => e = .returned (.bool true) ∧ J (pre ++ [x]) W' ∧ After own W1 W') → J [] W →
   CallsIn F (n - 1) P gf (#[.func (.yield lp) #[] #[]] ++ lb) W fun e W' => (∃ v, e = .returned v) ∧ J out W')
  (h0 : I [] w) (a₁ : Int → Act)
  (hassign : ∀ (l m : Nat) (x : Int) (W : World) (K : Act → World → Prop), K (a₁ x) W →
   assign.wpIn (F.inRound l) m P (Exit.then K (fun _ _ _ => False)) { tmps := (ps.zip #[.int .i64 x]).foldl (fun t (p, v) => t.setIfInBounds p v) a.tmps, defers := [] } W)
  (hbody : ∀ (l m : Nat) (pre : List Int) (x : Int) (W : World), w.heap.size ≤ W.heap.size → I pre W → pre.length ≤ N → body.wpIn (F.inRound l) m P (minePost own I (pre ++ [x]) W) (a₁ x) W)
  (hdone : ∀ (D : Nat) (W : World), w.heap.size ≤ D → I out W → W.heap[D]? = some (.deferred (some [])) → Q .normal { a with defers := { target := .collected D, args := #[] } :: a.defers } W) :
  (Code.rangeFunc g ps assign body).wpIn F n P Q a w := by
 refine wpIn_rangeFunc ?_
 intro fn hfn
 rw [hro]
 obtain ⟨rec, hrec⟩ : ∃ rec : LoopState → Option Code → Loop, rec = fun st pe => { state := st, pending := pe, fn, tmps := a.tmps, params := ps, assign, body, defers := w.heap.size } := ⟨_, rfl⟩
 obtain ⟨W1, hW1⟩ : ∃ W1, (w.alloc (.deferred (some []))).alloc (.loop (rec .ready none)) = W1 := ⟨_, rfl⟩
 have hs1 : W1.heap.size = w.heap.size + 1 + 1 := by rw [← hW1]; simp
 have hL1 : W1.heap[w.heap.size + 1]? = some (.loop (rec .ready none)) := by
  rw [← hW1]; have := World.alloc_heap_new (w.alloc (.deferred (some []))) (.loop (rec .ready none)); rwa [World.size_alloc] at this
 have hK1 : W1.heap[w.heap.size]? = some (.deferred (some [])) := by
  rw [← hW1]; exact (Below.heap_alloc _ _ _ (by simp)).trans (World.alloc_heap_new w _)
 have hI1 : I [] W1 := by rw [← hW1]; exact hM.alloc (hM.alloc h0 _) _
 have hb1 : Below w.heap.size w W1 := by
  rw [← hW1]; exact ((Below.refl _ w).alloc (Nat.le_refl _) _).alloc (by simp) _
 have ho1 : ∀ b, own W1 b → own w b := fun b hb => by
  rw [← hW1] at hb
  exact hM.owns _ _ none (Nat.le_refl _) (World.grownBy_alloc w _ none) (fun r e => by cases e) b (hM.owns _ _ none (by simp) (World.grownBy_alloc _ _ none) (fun r e => by cases e) b hb)
 refine ⟨w.heap.size + 1, [{ target := .collected w.heap.size, args := #[] }], W1, { target := .fn (.func gf) lb, args := #[.func (.yield (w.heap.size + 1)) #[] #[]] }, W1, gf,
  #[.func (.yield (w.heap.size + 1)) #[] #[]] ++ lb, W1, ?_, ?_, ?_, ?_, fun _ => h1, ?_⟩
 ·rw [← hW1, hrec]; exact run_enterLoop_outer _ _ _ _ _
 ·simp only [resolve, hg]
  simp [go_sem]
 ·intro f' hf'; simp [Target.leads] at hf'; subst hf'; exact hFg
 ·simp [invoke, go_sem, eg]
 ·refine (hiter (w.heap.size + 1) (fun pre W => I pre W ∧ W.heap[w.heap.size + 1]? = some (.loop (rec .ready none)) ∧ W.heap[w.heap.size]? = some (.deferred (some []))) W1 hb1 ⟨?_, ?_, ?_⟩ ho1 ?_ ⟨hI1, hL1, hK1⟩).mono ?_
  ·rintro pre A B row ⟨hi, hl, hk⟩ hgr hr
   have hne : ∀ k, k < w.heap.size + 2 → some k ≠ row := fun k hk e => by have := (hr k e.symm).1; omega
   have hlt : w.heap.size + 1 < A.heap.size := (Array.getElem?_eq_some_iff.1 hl).1
   exact ⟨hM.stays pre A B row hi hgr (fun r e => ⟨by have := (hr r e).1; omega, (hr r e).2⟩), (hgr.block _ hlt (hne _ (by omega))).trans hl, (hgr.block _ (by omega) (hne _ (by omega))).trans hk⟩
  ·intro A B row hA hgr hr
   exact hM.owns A B row (by omega) hgr (fun r e => ⟨by have := (hr r e).1; omega, (hr r e).2⟩)
  ·rintro pre A ⟨hi, -⟩ b hb
   obtain ⟨h2, h3⟩ := hM.lies pre A hi b hb
   exact ⟨h2, h3.imp (fun h => by omega) id⟩
  ·rintro m pre x W ⟨hi, hl, hk⟩ hlen
   have hlt : w.heap.size + 1 < W.heap.size := (Array.getElem?_eq_some_iff.1 hl).1
   have hy := run_yield (P := P) (args := #[.int .i64 x]) hl (by rw [hrec]; exact hps.symm)
   rw [hrec] at hy
   refine ⟨fn, _, assign, body, hy, roundIn_of_wpIn hfn (hassign _ m x W _ ?_)⟩
   clear hy
   refine ⟨_, run_beginRound hl (by rw [hrec]), ?_⟩
   have hl2 : (W.putObj (w.heap.size + 1) (.loop { rec .ready none with state := .busy })).heap[w.heap.size + 1]? = some (.loop { rec .ready none with state := .busy }) := World.putObj_heap_same hlt
   have hk2 : (W.putObj (w.heap.size + 1) (.loop { rec .ready none with state := .busy })).heap[w.heap.size]? = some (.deferred (some [])) := (World.putObj_heap_other (by omega)).trans hk
   have hi2 : I pre (W.putObj (w.heap.size + 1) (.loop { rec .ready none with state := .busy })) := mine_put hM hi hl rfl (by omega)
   have hsz2 : (W.putObj (w.heap.size + 1) (.loop { rec .ready none with state := .busy })).heap.size = W.heap.size := by simp
   have notown : ∀ k, w.heap.size ≤ k → (∃ o : Obj, (W.putObj (w.heap.size + 1) (.loop { rec .ready none with state := .busy })).heap[k]? = some o ∧ o.isCells = false) → ¬ own (W.putObj (w.heap.size + 1) (.loop { rec .ready none with state := .busy })) k := fun k hk0 ⟨o, ho, hc⟩ hw => by
    rcases (hM.lies pre _ hi2 k hw).2 with h | ⟨o', ho', hc'⟩
    ·omega
    ·rw [ho] at ho'; cases ho'; rw [hc] at hc'; cases hc'
   refine wpIn_mono (hbody _ m pre x _ (by rw [hsz2]; omega) hi2 hlen) ?_
   rintro e a3 W3 hp
   cases e with
   | normal =>
    obtain ⟨hi3, hs3, ho3, hb3⟩ := hp
    replace hs3 : W.heap.size ≤ W3.heap.size := by simpa using hs3
    replace ho3 : ∀ b, own W3 b → own (W.putObj (w.heap.size + 1) (.loop { rec .ready none with state := .busy })) b ∨ W.heap.size ≤ b := fun b hb => (ho3 b hb).imp id (fun h => by simpa using h)
    replace hb3 : ∀ b, b < W.heap.size → ¬ own (W.putObj (w.heap.size + 1) (.loop { rec .ready none with state := .busy })) b → W3.heap[b]? = (W.putObj (w.heap.size + 1) (.loop { rec .ready none with state := .busy })).heap[b]? := fun b hb => hb3 b (by simpa using hb)
    have hl3 := (hb3 (w.heap.size + 1) (by omega) (notown _ (by omega) ⟨_, hl2, rfl⟩)).trans hl2
    have hk3 := (hb3 w.heap.size (by omega) (notown _ (by omega) ⟨_, hk2, rfl⟩)).trans hk2
    have hlt3 : w.heap.size + 1 < W3.heap.size := (Array.getElem?_eq_some_iff.1 hl3).1
    have hr := run_endRound (P := P) none hl3
    refine ⟨_, _, hr, rfl, ⟨mine_put hM hi3 hl3 rfl (by omega), ?_, ?_⟩, ?_, ?_, ?_⟩
    ·rw [World.putObj_heap_same hlt3, hrec]; rfl
    ·exact (World.putObj_heap_other (by omega)).trans hk3
    ·simp; omega
    ·intro b hb
     have hb := own_put hM (by omega) hl3 rfl (by omega) hb
     rcases ho3 b hb with h | h
     ·exact .inl (own_put hM (by omega) hl rfl (by omega) h)
     ·exact .inr (by omega)
    ·intro b hbs hno
     by_cases hbl : b = w.heap.size + 1
     ·subst hbl
      rw [World.putObj_heap_same hlt3, hl, hrec]; rfl
     ·refine (World.putObj_heap_other hbl).trans ((hb3 b (by omega) (fun h => hno (own_put hM (by omega) hl rfl (by omega) h))).trans (World.putObj_heap_other hbl))
   | ret => exact hp.elim
   | exit id => exact hp.elim
   | goto t => exact hp.elim
   | panic ch => exact hp.elim
   | outgrown => exact hp.elim
  ·rintro e W2 ⟨⟨v, rfl⟩, hi, hl, hk⟩
   exact ⟨none, _, by have := run_endLoop (P := P) hl (by rw [hrec]; simp); rw [hrec] at this; exact this, hdone _ _ (Nat.le_refl _) (mine_put hM hi hl rfl (by omega)) ((World.putObj_heap_other (by omega)).trans hk)⟩
end Go.Proofs.YtkbohijlhhpfbaaGreatDoor.Tm

import Derived.Test.YtkbohijlhhpfbaaGreatDoorVZk
import Derived.Test.YtkbohijlhhpfbaaGreatDoorVYd
import Derived.Deep.WholeRow
import Derived.Deep.MidRow
import Derived.BigQuiet
import Derived.Test.YtkbohijlhhpfbaaGreatDoorVPr
import Derived.BigRegion
import Derived.RegionTactic
import Derived.Test.YtkbohijlhhpfbaaGreatDoorVRq
/- Laws on whole structs that are stored and read; a walk by value; the walk through rset's start (printed by gen_walk.py). -/
namespace Go.Proofs.YtkbohijlhhpfbaaGreatDoor.Rs
open Go.RowKit Ru Ut Cw Ra Xp
theorem wpList_store_new {ops : Array Oper} {rest : List Oper} {op : Oper} {a : Act} {W : World} {Q : Exit → Act → World → Prop} {t : TypeId} {c : Array Value} (hgd : op.guard = none) (ty : TypeId) (x y : Operand) (ho : op.op = .store ty x y)
  (c' : Array Value) (n : Nat) (hx : a.eval x = .pointer (some ⟨n, 0, none⟩)) (hn : n = W.heap.size) (hy : a.eval y = .agg c') (hi : (Tryz.prog.info? ty).map (·.size) = some c'.size) (hs : c.size = c'.size) (h1 : c'.all (·.oneCell') = true)
  (h : wpList Tryz.prog ops Q rest (a.put op.dst undef) (W.alloc (.cells c' t))) : wpList Tryz.prog ops Q (op :: rest) a (W.alloc (.cells c t)) :=
 wpList_plain hgd fun K hK => by
  subst hn
  unfold Oper.wp execOp
  have := run_storeVar_row (P := Tryz.prog) (W.alloc (.cells c t)) W.heap.size t ty c c' (heap_alloc_last W _) hi hs h1
  rw [World.setRow_alloc_new] at this
  simp only [ho, hx, hy, Instr.storeAt, Instr.sureAddr, Sem.run_bind, Sem.run_pure, Result.andThen_ok, this]
  exact hK _ _ h
theorem setRow_past (W : World) (o : Obj) (g : Nat) (cs : Array Value) (hg : g < W.heap.size) : (W.alloc o).setRow g cs = (W.setRow g cs).alloc o := by
 simp only [World.setRow, World.alloc]
 congr 1
 apply Array.ext_getElem?
 intro k
 simp only [Array.getElem?_modify, Array.getElem?_push, Array.size_modify]
 by_cases hk : k = W.heap.size
 ·subst hk
  simp [Nat.ne_of_lt hg]
 ·simp [hk]
theorem wpList_store_new2 {ops : Array Oper} {rest : List Oper} {op : Oper} {a : Act} {W : World} {Q : Exit → Act → World → Prop} {t : TypeId} {c : Array Value} {o2 : Obj} (hgd : op.guard = none) (ty : TypeId) (x y : Operand) (ho : op.op = .store ty x y)
  (c' : Array Value) (n : Nat) (hx : a.eval x = .pointer (some ⟨n, 0, none⟩)) (hn : n = W.heap.size) (hy : a.eval y = .agg c') (hi : (Tryz.prog.info? ty).map (·.size) = some c'.size) (hs : c.size = c'.size) (h1 : c'.all (·.oneCell') = true)
  (h : wpList Tryz.prog ops Q rest (a.put op.dst undef) ((W.alloc (.cells c' t)).alloc o2)) : wpList Tryz.prog ops Q (op :: rest) a ((W.alloc (.cells c t)).alloc o2) :=
 wpList_plain hgd fun K hK => by
  subst hn
  unfold Oper.wp execOp
  have := run_storeVar_row (P := Tryz.prog) ((W.alloc (.cells c t)).alloc o2) W.heap.size t ty c c' (heap_alloc2_old W _ _) hi hs h1
  rw [setRow_past _ _ _ _ (by simp), World.setRow_alloc_new] at this
  simp only [ho, hx, hy, Instr.storeAt, Instr.sureAddr, Sem.run_bind, Sem.run_pure, Result.andThen_ok, this]
  exact hK _ _ h
theorem wpList_load_arr {ops : Array Oper} {rest : List Oper} {op : Oper} {a : Act} {w : World} {Q : Exit → Act → World → Prop} (hgd : op.guard = none) (ty : TypeId) (x : Operand) (ho : op.op = .load ty x)
  (b o : Nat) (hx : a.eval x = .pointer (some ⟨b, o, none⟩)) (cs : Array Value) (d : TypeDesc) (hc : w.rangeAt b o cs.toList)
  (hu : Tryz.prog.underlying ty = some d) (hd : d.isRow = true) (hi : (Tryz.prog.info? ty).map (·.size) = some cs.size)
  (h : wpList Tryz.prog ops Q rest (a.put op.dst (.agg cs)) w) : wpList Tryz.prog ops Q (op :: rest) a w :=
 wpList_load_mid hgd ty x ho b o hx cs.toList d hc hu hd (by simpa using hi) (by simpa using h)
theorem range_new (w : World) (C : Array Value) (t : TypeId) : (w.alloc (.cells C t)).rangeAt w.heap.size 0 C.toList := fun j v hv => by
 rw [Nat.zero_add]
 exact (World.cell?_alloc_new w C t j).trans (by simpa using hv)
def Blk (W : World) (b : Nat) (C : Array Value) : Prop := b < W.heap.size ∧ ∀ i v, C[i]? = some v → W.cell? ⟨b, i, none⟩ = some v
theorem Blk.range {W : World} {b : Nat} {C : Array Value} (h : Blk W b C) : W.rangeAt b 0 C.toList := fun j v hv => by
 rw [Nat.zero_add]
 exact h.2 j v (by simpa using hv)
theorem Blk.mk {w W : World} {C : Array Value} {t : TypeId} (hB : Below (w.alloc (.cells C t)).heap.size (w.alloc (.cells C t)) W) : Blk W w.heap.size C := by
 have := hB.size
 rw [World.size_alloc] at this
 exact ⟨by omega, fun i v h => (hB.cell (p := ⟨w.heap.size, i, none⟩) (by simp)).trans ((World.cell?_alloc_new w C t i).trans h)⟩
theorem Blk.later {W W2 : World} {b B : Nat} {C : Array Value} (h : Blk W b C) (hB : Below B W W2) (hb : b < B) : Blk W2 b C :=
 ⟨Nat.lt_of_lt_of_le h.1 hB.size, fun i v hv => (hB.cell (p := ⟨b, i, none⟩) hb).trans (h.2 i v hv)⟩
theorem blk_two (w : World) (A : Obj) (C : Array Value) (t : TypeId) : Blk ((w.alloc A).alloc (.cells C t)) (w.heap.size + 1) C := by
 refine ⟨by simp, fun i v h => ?_⟩
 exact (World.cell?_alloc_at C t _ i (by simp)).trans h
theorem Blk.draw {W : World} {b : Nat} {C : Array Value} (h : Blk W b C) : Blk W.drew b C := h
theorem Blk.fifteen {W : World} {b : Nat} {v0 v1 v2 v3 v4 v5 v6 v7 v8 v9 v10 v11 v12 v13 v14 : Value} (h : Blk W b #[v0, v1, v2, v3, v4, v5, v6, v7, v8, v9, v10, v11, v12, v13, v14]) : W.cell? ⟨b, 0, none⟩ = some v0 ∧ W.cell? ⟨b, 1, none⟩ = some v1 ∧ W.cell? ⟨b, 2, none⟩ = some v2 ∧ W.cell? ⟨b, 3, none⟩ = some v3 ∧ W.cell? ⟨b, 4, none⟩ = some v4 ∧ W.cell? ⟨b, 5, none⟩ = some v5 ∧ W.cell? ⟨b, 6, none⟩ = some v6 ∧ W.cell? ⟨b, 7, none⟩ = some v7 ∧ W.cell? ⟨b, 8, none⟩ = some v8 ∧ W.cell? ⟨b, 9, none⟩ = some v9 ∧ W.cell? ⟨b, 10, none⟩ = some v10 ∧ W.cell? ⟨b, 11, none⟩ = some v11 ∧ W.cell? ⟨b, 12, none⟩ = some v12 ∧ W.cell? ⟨b, 13, none⟩ = some v13 ∧ W.cell? ⟨b, 14, none⟩ = some v14 :=
 ⟨h.2 0 _ rfl, h.2 1 _ rfl, h.2 2 _ rfl, h.2 3 _ rfl, h.2 4 _ rfl, h.2 5 _ rfl, h.2 6 _ rfl, h.2 7 _ rfl, h.2 8 _ rfl, h.2 9 _ rfl, h.2 10 _ rfl, h.2 11 _ rfl, h.2 12 _ rfl, h.2 13 _ rfl, h.2 14 _ rfl⟩
theorem sizeWalk : (Tryz.prog.info? 93).map (·.size) = some 26 := by kernel_rfl
theorem sizeSet : (Tryz.prog.info? 48).map (·.size) = some 19 := by kernel_rfl
theorem undWalk : ∃ d, Tryz.prog.underlying 93 = some d ∧ d.isRow = true := ⟨_, Tryz.underlying93, rfl⟩
theorem undSet : ∃ d, Tryz.prog.underlying 48 = some d ∧ d.isRow = true := ⟨_, Tryz.underlying48, rfl⟩
/-! ## A set, a rule, a walk: by value -/
def ruleQ (s : St) (a : Nat → Option Addr) (c : Nat → Nat) : Array Value := #[.int .u8 s.rule.freq, .int .i64 s.rule.interval, .int .i64 s.rule.count, .int .u8 s.rule.uk, .int .i64 s.rule.us, .slice (a 4) s.rule.sec.length (c 4), .slice (a 5) s.rule.min.length (c 5), .slice (a 6) s.rule.hour.length (c 6), .slice (a 7) s.rule.day.length (c 7), .slice (a 8) s.rule.mday.length (c 8), .slice (a 9) s.rule.yday.length (c 9), .slice (a 10) s.rule.weekno.length (c 10), .slice (a 11) s.rule.month.length (c 11), .slice (a 12) s.rule.setpos.length (c 12), .int .i64 s.rule.wkst]
def setQ (s : St) (a : Nat → Option Addr) (c : Nat → Nat) : Array Value := #[.int .u8 s.kind, .int .i64 s.sec, .int .u8 s.rule.freq, .int .i64 s.rule.interval, .int .i64 s.rule.count, .int .u8 s.rule.uk, .int .i64 s.rule.us, .slice (a 4) s.rule.sec.length (c 4), .slice (a 5) s.rule.min.length (c 5), .slice (a 6) s.rule.hour.length (c 6), .slice (a 7) s.rule.day.length (c 7), .slice (a 8) s.rule.mday.length (c 8), .slice (a 9) s.rule.yday.length (c 9), .slice (a 10) s.rule.weekno.length (c 10), .slice (a 11) s.rule.month.length (c 11), .slice (a 12) s.rule.setpos.length (c 12), .int .i64 s.rule.wkst, .slice (a 13) s.inn.length (c 13), .slice (a 14) s.out.length (c 14)]
theorem ls_q {W : World} {s : St} {sv : Nat → Value} {vi vo : Value} (h : LS W s sv vi vo) : ∃ a c, setC s sv vi vo = setQ s a c ∧ LS W s (svQ s.rule a c) (.slice (a 13) s.inn.length (c 13)) (.slice (a 14) s.out.length (c 14)) := by
 obtain ⟨hL, hi, ho⟩ := h
 have hs : ∀ q : Nat, ∃ a, ∃ c, (4 ≤ q → q ≤ 12 → sv q = .slice a (ln s.rule q) c) ∧ (q = 13 → vi = .slice a s.inn.length c) ∧ (q = 14 → vo = .slice a s.out.length c) := fun q => by
  by_cases hq : 4 ≤ q ∧ q ≤ 12
  ·by_cases h7 : q = 7
   ·subst h7
    rcases hL.2 with ⟨h0, a, c, e, _⟩ | ⟨_, b, o, c, e, _⟩
    ·exact ⟨a, c, fun _ _ => by rw [e]; unfold ln; rw [if_pos rfl, h0]; rfl, (fun h => by omega), (fun h => by omega)⟩
    ·exact ⟨_, c, fun _ _ => by rw [e]; unfold ln; rw [if_pos rfl], (fun h => by omega), (fun h => by omega)⟩
   ·obtain ⟨a, c, e⟩ := ints_slice (hL.1 q hq.1 hq.2 h7)
    exact ⟨a, c, fun _ _ => by rw [e]; unfold ln; rw [if_neg h7], (fun h => by omega), (fun h => by omega)⟩
  ·by_cases h13 : q = 13
   ·obtain ⟨a, c, e⟩ := hi.slice
    exact ⟨a, c, (fun h1 h2 => absurd ⟨h1, h2⟩ hq), fun _ => e, (fun h => by omega)⟩
   ·obtain ⟨a, c, e⟩ := ho.slice
    exact ⟨a, c, (fun h1 h2 => absurd ⟨h1, h2⟩ hq), (fun h => absurd h h13), fun _ => e⟩
 obtain ⟨a, ha⟩ := Classical.axiomOfChoice hs
 obtain ⟨c, hc⟩ := Classical.axiomOfChoice ha
 have k := fun q h1 h2 => (hc q).1 h1 h2
 have e13 := (hc 13).2.1 rfl
 have e14 := (hc 14).2.2 rfl
 refine ⟨a, c, ?_, ⟨fun q h4 h12 h7 => ?_, ?_⟩, by rw [← e13]; exact hi, by rw [← e14]; exact ho⟩
 ·unfold setC setQ
  rw [k 4 (by decide) (by decide), k 5 (by decide) (by decide), k 6 (by decide) (by decide), k 7 (by decide) (by decide), k 8 (by decide) (by decide), k 9 (by decide) (by decide), k 10 (by decide) (by decide), k 11 (by decide) (by decide), k 12 (by decide) (by decide), e13, e14]
  rfl
 ·have h := hL.1 q h4 h12 h7
  rw [k q h4 h12] at h
  exact h
 ·have h := hL.2
  rw [k 7 (by decide) (by decide)] at h
  exact h
def walkH (s : St) (a : Nat → Option Addr) (c : Nat → Nat) (x y bud : Int) (once : Bool) : Array Value := #[.int .u8 s.kind, .int .i64 s.sec, .int .u8 s.rule.freq, .int .i64 s.rule.interval, .int .i64 s.rule.count, .int .u8 s.rule.uk, .int .i64 s.rule.us, .slice (a 4) s.rule.sec.length (c 4), .slice (a 5) s.rule.min.length (c 5), .slice (a 6) s.rule.hour.length (c 6), .slice (a 7) s.rule.day.length (c 7), .slice (a 8) s.rule.mday.length (c 8), .slice (a 9) s.rule.yday.length (c 9), .slice (a 10) s.rule.weekno.length (c 10), .slice (a 11) s.rule.month.length (c 11), .slice (a 12) s.rule.setpos.length (c 12), .int .i64 s.rule.wkst, .slice (a 13) s.inn.length (c 13), .slice (a 14) s.out.length (c 14), .int .i64 x, .int .i64 y, .int .i64 (finS s), .int .i64 bud, .bool once]
def walkQ (s : St) (a : Nat → Option Addr) (c : Nat → Nat) (x y bud : Int) (once : Bool) (used : Int) (v : Value) : Array Value := ((walkH s a c x y bud once).push (.int .i64 used)).push v
end Go.Proofs.YtkbohijlhhpfbaaGreatDoor.Rs
/- The block of a walk; the walks through rset's begin and meet (printed by gen_meet.py). -/
namespace Go.Proofs.YtkbohijlhhpfbaaGreatDoor.Rs
open Go.RowKit Ru Ut Cw Ra Xp
theorem Blk.set {W : World} {b : Nat} {C : Array Value} (h : Blk W b C) (k : Nat) (u : Value) (hk : k < C.size) : Blk (W.setCell ⟨b, k, none⟩ u) b (C.setIfInBounds k u) := by
 refine ⟨by simpa using h.1, fun i v hv => ?_⟩
 by_cases hi : k = i
 ·subst hi
  have e : v = u := by simpa [hk] using hv.symm
  subst e
  exact World.cell?_setCell_same W ⟨b, k, none⟩ _ (h.2 k C[k] (by simp [hk]))
 ·rw [World.cell?_setCell_other W ⟨b, k, none⟩ ⟨b, i, none⟩ u (fun e => hi (by injection e))]
  refine h.2 i v ?_
  rw [Array.getElem?_setIfInBounds, if_neg hi] at hv
  exact hv
def WK (W : World) (b : Nat) (s : St) (a : Nat → Option Addr) (c : Nat → Nat) (x y bud : Int) (once : Bool) (used : Int) (v : Value) : Prop := Blk W b (walkQ s a c x y bud once used v) ∧ ∀ i, W.frozen? ⟨b, i, none⟩ = false
theorem WK.later {W W2 : World} {b B : Nat} {s : St} {a : Nat → Option Addr} {c : Nat → Nat} {x y bud : Int} {once : Bool} {used : Int} {v : Value} (h : WK W b s a c x y bud once used v) (hB : Below B W W2) (hb : b < B) : WK W2 b s a c x y bud once used v := ⟨h.1.later hB hb, fun i => (hB.frozen (p := ⟨b, i, none⟩) hb).trans (h.2 i)⟩
theorem WK.met {W : World} {b : Nat} {s : St} {a : Nat → Option Addr} {c : Nat → Nat} {x y bud : Int} {once : Bool} {used : Int} {v : Value} (h : WK W b s a c x y bud once used v) (u : Value) : WK (W.setCell ⟨b, 25, none⟩ u) b s a c x y bud once used u :=
 ⟨h.1.set 25 u (by show 25 < 26; omega), fun i => by rw [World.frozen?_setCell]; exact h.2 i⟩
theorem WK.steps {W : World} {b : Nat} {s : St} {a : Nat → Option Addr} {c : Nat → Nat} {x y bud : Int} {once : Bool} {used : Int} {v : Value} (h : WK W b s a c x y bud once used v) (n : Int) : WK (W.setCell ⟨b, 24, none⟩ (.int .i64 n)) b s a c x y bud once n v :=
 ⟨h.1.set 24 (.int .i64 n) (by show 24 < 26; omega), fun i => by rw [World.frozen?_setCell]; exact h.2 i⟩
theorem WK.cells {W : World} {b : Nat} {s : St} {a : Nat → Option Addr} {c : Nat → Nat} {x y bud : Int} {once : Bool} {used : Int} {v : Value} (h : WK W b s a c x y bud once used v) : W.cell? ⟨b, 0, none⟩ = some (.int .u8 s.kind) ∧ W.cell? ⟨b, 1, none⟩ = some (.int .i64 s.sec) ∧ W.cell? ⟨b, 2, none⟩ = some (.int .u8 s.rule.freq) ∧ W.cell? ⟨b, 3, none⟩ = some (.int .i64 s.rule.interval) ∧ W.cell? ⟨b, 4, none⟩ = some (.int .i64 s.rule.count) ∧ W.cell? ⟨b, 5, none⟩ = some (.int .u8 s.rule.uk) ∧ W.cell? ⟨b, 6, none⟩ = some (.int .i64 s.rule.us) ∧ W.cell? ⟨b, 7, none⟩ = some (.slice (a 4) s.rule.sec.length (c 4)) ∧ W.cell? ⟨b, 8, none⟩ = some (.slice (a 5) s.rule.min.length (c 5)) ∧ W.cell? ⟨b, 9, none⟩ = some (.slice (a 6) s.rule.hour.length (c 6)) ∧ W.cell? ⟨b, 10, none⟩ = some (.slice (a 7) s.rule.day.length (c 7)) ∧ W.cell? ⟨b, 11, none⟩ = some (.slice (a 8) s.rule.mday.length (c 8)) ∧ W.cell? ⟨b, 12, none⟩ = some (.slice (a 9) s.rule.yday.length (c 9)) ∧ W.cell? ⟨b, 13, none⟩ = some (.slice (a 10) s.rule.weekno.length (c 10)) ∧ W.cell? ⟨b, 14, none⟩ = some (.slice (a 11) s.rule.month.length (c 11)) ∧ W.cell? ⟨b, 15, none⟩ = some (.slice (a 12) s.rule.setpos.length (c 12)) ∧ W.cell? ⟨b, 16, none⟩ = some (.int .i64 s.rule.wkst) ∧ W.cell? ⟨b, 17, none⟩ = some (.slice (a 13) s.inn.length (c 13)) ∧ W.cell? ⟨b, 18, none⟩ = some (.slice (a 14) s.out.length (c 14)) ∧ W.cell? ⟨b, 19, none⟩ = some (.int .i64 x) ∧ W.cell? ⟨b, 20, none⟩ = some (.int .i64 y) ∧ W.cell? ⟨b, 21, none⟩ = some (.int .i64 (finS s)) ∧ W.cell? ⟨b, 22, none⟩ = some (.int .i64 bud) ∧ W.cell? ⟨b, 23, none⟩ = some (.bool once) ∧ W.cell? ⟨b, 24, none⟩ = some (.int .i64 used) ∧ W.cell? ⟨b, 25, none⟩ = some (v) :=
 ⟨h.1.2 0 _ rfl, h.1.2 1 _ rfl, h.1.2 2 _ rfl, h.1.2 3 _ rfl, h.1.2 4 _ rfl, h.1.2 5 _ rfl, h.1.2 6 _ rfl, h.1.2 7 _ rfl, h.1.2 8 _ rfl, h.1.2 9 _ rfl, h.1.2 10 _ rfl, h.1.2 11 _ rfl, h.1.2 12 _ rfl, h.1.2 13 _ rfl, h.1.2 14 _ rfl, h.1.2 15 _ rfl, h.1.2 16 _ rfl, h.1.2 17 _ rfl, h.1.2 18 _ rfl, h.1.2 19 _ rfl, h.1.2 20 _ rfl, h.1.2 21 _ rfl, h.1.2 22 _ rfl, h.1.2 23 _ rfl, h.1.2 24 _ rfl, h.1.2 25 _ rfl⟩
set_option maxHeartbeats 4000000 in
set_option maxRecDepth 100000 in
theorem begin_any {W : World} {b : Nat} {s : St} {a : Nat → Option Addr} {c : Nat → Nat} {x y bud : Int} {once : Bool} {used : Int} {v : Value} (hT : Tab W) (hK : WK W b s a c x y bud once used v) (f0 : 0 ≤ s.rule.freq) :
  Calls Tryz.prog 89 #[.pointer (some ⟨b, 0, none⟩)] W fun e w' => e = .returned (.tuple #[.int .i64 (bg (pS s x y bud once)).1, .bool (bg (pS s x y bud once)).2]) ∧ Below W.heap.size W w' := by
 have hb := hK.1.1
 obtain ⟨c0, c1, c2, c3, c4, c5, c6, c7, c8, c9, c10, c11, c12, c13, c14, c15, c16, c17, c18, c19, c20, c21, c22, c23, c24, c25⟩ := hK.cells
 clear c0 c17 c18 c20 c21 c22 c23 c24 c25 hK
 have FI : ∀ t W2, Below W.heap.size W W2 → Calls Tryz.prog 61 #[.int .u8 s.rule.freq, .int .i64 s.rule.wkst, .int .i64 t] W2 fun e w' => e = .returned (.int .i64 (Pd.index s.rule.freq s.rule.wkst t)) ∧ W2 = w' := fun t W2 hB => index_any _ _ t W2 (hT.later hB) f0
 by_cases hc : 0 < s.rule.count
 ·have hr : bg (pS s x y bud once) = (Pd.index s.rule.freq s.rule.wkst s.sec, true) := by unfold bg begin; rw [if_pos (show 0 < (pS s x y bud once).r.count from hc)]; rfl
  rw [hr]
  replace FI := Lib.hid FI
  clear hr hT
  go_enter Tryz.func89, Tryz.ntmps89
  go_wp2
  go_region
  go_wp2_with (first
   | (go_at_call 61; (with_reducible refine (FI.out _ _ (by (repeat' (first|assumption|exact Below.refl _ _|apply Below.next_alloc|apply Below.drew|(apply Below.next;rotate_left;assumption))))).mono ?_); rintro e w1 ⟨rfl, rfl⟩))
  go_ret2
  exact ⟨rfl, by (repeat' (first|assumption|exact Below.refl _ _|apply Below.next_alloc|apply Below.drew|(apply Below.next;rotate_left;assumption)))⟩
 ·by_cases hm : 315537897599 < max x s.sec
  ·have hr : bg (pS s x y bud once) = (0, false) := by
    unfold bg begin
    rw [if_neg (show ¬ 0 < (pS s x y bud once).r.count from hc), if_pos (show 315537897599 < max (pS s x y bud once).a (pS s x y bud once).start from hm)]
   rw [hr]
   replace FI := Lib.hid FI
   clear hr hT
   go_enter Tryz.func89, Tryz.ntmps89
   go_wp2
   go_region
   go_wp2_with (first
    | (go_at_call 61; (with_reducible refine (FI.out _ _ (by (repeat' (first|assumption|exact Below.refl _ _|apply Below.next_alloc|apply Below.drew|(apply Below.next;rotate_left;assumption))))).mono ?_); rintro e w1 ⟨rfl, rfl⟩))
   go_ret2
   exact ⟨rfl, by (repeat' (first|assumption|exact Below.refl _ _|apply Below.next_alloc|apply Below.drew|(apply Below.next;rotate_left;assumption)))⟩
  ·have hr : bg (pS s x y bud once) = (Pd.step (Pd.index s.rule.freq s.rule.wkst s.sec) s.rule.interval (Pd.index s.rule.freq s.rule.wkst (max x s.sec)), true) := by
    unfold bg begin
    rw [if_neg (show ¬ 0 < (pS s x y bud once).r.count from hc), if_neg (show ¬ 315537897599 < max (pS s x y bud once).a (pS s x y bud once).start from hm)]
    rfl
   rw [hr]
   have FP : ∀ a k b W, Calls Tryz.prog 135 #[.int .i64 a, .int .i64 k, .int .i64 b] W fun e w' => e = .returned (.int .i64 (Pd.step a k b)) ∧ W = w' := fun a k b W => step_any a k b W
   replace FP := Lib.hid FP
   replace FI := Lib.hid FI
   clear hr hT
   go_enter Tryz.func89, Tryz.ntmps89
   go_wp2
   go_region
   go_wp2_with (first
    | (go_at_call 61; (with_reducible refine (FI.out _ _ (by (repeat' (first|assumption|exact Below.refl _ _|apply Below.next_alloc|apply Below.drew|(apply Below.next;rotate_left;assumption))))).mono ?_); rintro e w1 ⟨rfl, rfl⟩))
   have KR : Blk (W.alloc (.cells #[.int .u8 s.rule.freq, .int .i64 s.rule.interval, .int .i64 s.rule.count, .int .u8 s.rule.uk, .int .i64 s.rule.us, .slice (a 4) s.rule.sec.length (c 4), .slice (a 5) s.rule.min.length (c 5), .slice (a 6) s.rule.hour.length (c 6), .slice (a 7) s.rule.day.length (c 7), .slice (a 8) s.rule.mday.length (c 8), .slice (a 9) s.rule.yday.length (c 9), .slice (a 10) s.rule.weekno.length (c 10), .slice (a 11) s.rule.month.length (c 11), .slice (a 12) s.rule.setpos.length (c 12), .int .i64 s.rule.wkst] 33)).drew W.heap.size #[.int .u8 s.rule.freq, .int .i64 s.rule.interval, .int .i64 s.rule.count, .int .u8 s.rule.uk, .int .i64 s.rule.us, .slice (a 4) s.rule.sec.length (c 4), .slice (a 5) s.rule.min.length (c 5), .slice (a 6) s.rule.hour.length (c 6), .slice (a 7) s.rule.day.length (c 7), .slice (a 8) s.rule.mday.length (c 8), .slice (a 9) s.rule.yday.length (c 9), .slice (a 10) s.rule.weekno.length (c 10), .slice (a 11) s.rule.month.length (c 11), .slice (a 12) s.rule.setpos.length (c 12), .int .i64 s.rule.wkst] := Blk.draw (Blk.mk (Below.refl _ _))
   have BR : Below W.heap.size W (W.alloc (.cells #[.int .u8 s.rule.freq, .int .i64 s.rule.interval, .int .i64 s.rule.count, .int .u8 s.rule.uk, .int .i64 s.rule.us, .slice (a 4) s.rule.sec.length (c 4), .slice (a 5) s.rule.min.length (c 5), .slice (a 6) s.rule.hour.length (c 6), .slice (a 7) s.rule.day.length (c 7), .slice (a 8) s.rule.mday.length (c 8), .slice (a 9) s.rule.yday.length (c 9), .slice (a 10) s.rule.weekno.length (c 10), .slice (a 11) s.rule.month.length (c 11), .slice (a 12) s.rule.setpos.length (c 12), .int .i64 s.rule.wkst] 33)).drew := by (repeat' (first|assumption|exact Below.refl _ _|apply Below.next_alloc|apply Below.drew|(apply Below.next;rotate_left;assumption)))
   obtain ⟨r0, r1, r2, r3, r4, r5, r6, r7, r8, r9, r10, r11, r12, r13, r14⟩ := KR.fifteen
   have z0 := KR.1
   generalize (W.alloc (.cells #[.int .u8 s.rule.freq, .int .i64 s.rule.interval, .int .i64 s.rule.count, .int .u8 s.rule.uk, .int .i64 s.rule.us, .slice (a 4) s.rule.sec.length (c 4), .slice (a 5) s.rule.min.length (c 5), .slice (a 6) s.rule.hour.length (c 6), .slice (a 7) s.rule.day.length (c 7), .slice (a 8) s.rule.mday.length (c 8), .slice (a 9) s.rule.yday.length (c 9), .slice (a 10) s.rule.weekno.length (c 10), .slice (a 11) s.rule.month.length (c 11), .slice (a 12) s.rule.setpos.length (c 12), .int .i64 s.rule.wkst] 33)).drew = W1 at *
   have FJ := Lib.hid (fun n => FI.out (max x s.sec) (W1.drewN n) (Base.below_drewN BR n))
   replace BR := Lib.hid BR
   clear KR
   go_quiet (first | (go_at_call 61; with_reducible exact Base.qsame (FJ.out _)) | (go_at_call 135; with_reducible exact Base.qsame (FP.out _ _ _ _)))
   go_wp2
   go_ret2
   exact ⟨rfl, Base.below_drewN BR.out _⟩
def GivesM (W : World) (b : Nat) (s : St) (a : Nat → Option Addr) (c : Nat → Nat) (x y bud : Int) (once : Bool) (used : Int) (v : Value) (t : Int) (l : List Int) (e : Ending) (w' : World) : Prop :=
 e = .returned (.bool (ends (pS s x y bud once) t)) ∧ ∃ v', WK w' b s a c x y bud once used v' ∧ OwnI w' (b + 1) v' (add (pS s x y bud once) t l) ∧ Asd (some b) W v w' v'
theorem own_moved {W : World} {b : Nat} {v u : Value} {l : List Int} {i : Nat} (h : OwnI W (b + 1) v l) : OwnI (W.setCell ⟨b, i, none⟩ u) (b + 1) v l :=
 h.moved (fun k hk => Below.heap_setCell W ⟨b, i, none⟩ u k hk) (Nat.lt_succ_self b)
set_option maxHeartbeats 4000000 in
set_option maxRecDepth 100000 in
theorem meet_no {W : World} {b : Nat} {s : St} {a : Nat → Option Addr} {c : Nat → Nat} {x y bud : Int} {once : Bool} {used : Int} {v : Value} (t : Int) {l : List Int} (hK : WK W b s a c x y bud once used v) (hO : OwnI W (b + 1) v l) (h : hit (pS s x y bud once) t = false) :
  Calls Tryz.prog 91 #[.pointer (some ⟨b, 0, none⟩), .int .i64 t] W (GivesM W b s a c x y bud once used v t l) := by
 have hb := hK.1.1
 obtain ⟨c0, c1, c2, c3, c4, c5, c6, c7, c8, c9, c10, c11, c12, c13, c14, c15, c16, c17, c18, c19, c20, c21, c22, c23, c24, c25⟩ := hK.cells
 clear c0 c1 c2 c3 c4 c5 c6 c7 c8 c9 c10 c11 c12 c13 c14 c15 c16 c17 c18 c21 c22 c23 c24 c25
 have hr := Lib.hid (show GivesM W b s a c x y bud once used v t l (.returned (.bool false)) W from ⟨by rw [ends_nohit h], v, hK, by rw [add_no h]; exact hO, Asd.refl _ _ _⟩)
 have h2 : t < x ∨ (¬ t < x ∧ y ≤ t) := by
  unfold hit pS at h
  simp only [Bool.and_eq_false_iff, decide_eq_false_iff_not] at h
  omega
 clear h hK hO
 rcases h2 with h2 | ⟨h2, h3⟩
 ·go_enter Tryz.func91, Tryz.ntmps91
  go_wp2
  go_ret
  exact hr.out
 ·go_enter Tryz.func91, Tryz.ntmps91
  go_wp2
  go_ret
  exact hr.out
set_option maxHeartbeats 8000000 in
set_option maxRecDepth 100000 in
theorem meet_yes {W : World} {b : Nat} {s : St} {a : Nat → Option Addr} {c : Nat → Nat} {x y bud : Int} {once : Bool} {used : Int} {v : Value} (t : Int) {l : List Int} (hK : WK W b s a c x y bud once used v) (hO : OwnI W (b + 1) v l) (hV : ∀ W2, Below b W W2 → Vals W2 (.slice (a 14) s.out.length (c 14)) s.out) (hn : s.out.length ≤ 1000000) (hl : l.length ≤ 100000) (h : hit (pS s x y bud once) t = true) :
  Calls Tryz.prog 91 #[.pointer (some ⟨b, 0, none⟩), .int .i64 t] W (GivesM W b s a c x y bud once used v t l) := by
 have hb := hK.1.1
 obtain ⟨c0, c1, c2, c3, c4, c5, c6, c7, c8, c9, c10, c11, c12, c13, c14, c15, c16, c17, c18, c19, c20, c21, c22, c23, c24, c25⟩ := hK.cells
 clear c0 c1 c2 c3 c4 c5 c6 c7 c8 c9 c10 c11 c12 c13 c14 c15 c16 c17 c21 c22 c24
 have hh : x ≤ t ∧ t < y := by
  unfold hit pS at h
  simpa using h
 obtain ⟨h2, h3⟩ := hh
 have FA : ∀ W2, Below b W W2 → Calls Tryz.prog 53 #[.slice (a 14) s.out.length (c 14), .int .i64 t] W2 fun e w' => e = .returned (.bool (decide (t ∈ secs s.out))) ∧ Below W2.heap.size W2 w' := fun W2 hB => at_any t (hV W2 hB) hn
 have z1 : b + 1 ≤ W.heap.size := hb
 have AB := fun W5 v' (A : ∀ q, Asd q W v W5 v') => (A none).below (fun k e => by cases e) (fun k e => (ownI_block hO k e).1) z1
 have PM := Lib.hid (fun v' W5 (k : OwnI W5 (b + 1) v' (l ++ [t])) (A : ∀ q, Asd q W v W5 v') => (show WK (W5.setCell ⟨b, 25, none⟩ v') b s a c x y bud once used v' ∧ OwnI (W5.setCell ⟨b, 25, none⟩ v') (b + 1) v' (add (pS s x y bud once) t l) ∧ Asd (some b) W v (W5.setCell ⟨b, 25, none⟩ v') v' from
  ⟨(hK.later (AB W5 v' A) (Nat.lt_succ_self b)).met v', by rw [add_hit h]; exact own_moved k, (A (some b)).store 25 v'⟩))
 have FB := Lib.hid (fun W5 v' (A : ∀ q, Asd q W v W5 v') => FA (W5.setCell ⟨b, 25, none⟩ v') (((AB W5 v' A).mono (Nat.le_succ b)).setCell (Nat.le_refl b) v'))
 have BB := Lib.hid (fun W5 v' (A : ∀ q, Asd q W v W5 v') => (show b < W5.heap.size ∧ W5.cell? ⟨b, 25, none⟩ = some v ∧ W5.frozen? ⟨b, 25, none⟩ = false ∧ W5.cell? ⟨b, 23, none⟩ = some (.bool once) ∧ W5.cell? ⟨b, 18, none⟩ = some (.slice (a 14) s.out.length (c 14)) from
  ⟨Nat.lt_of_lt_of_le hb (AB W5 v' A).size, ((AB W5 v' A).cell (p := ⟨b, 25, none⟩) (Nat.lt_succ_self b)).trans c25, ((AB W5 v' A).frozen (p := ⟨b, 25, none⟩) (Nat.lt_succ_self b)).trans (hK.2 25), ((AB W5 v' A).cell (p := ⟨b, 23, none⟩) (Nat.lt_succ_self b)).trans c23, ((AB W5 v' A).cell (p := ⟨b, 18, none⟩) (Nat.lt_succ_self b)).trans c18⟩))
 have he : ends (pS s x y bud once) t = (once && !decide (t ∈ secs s.out)) := by unfold ends; rw [h]; rfl
 have hO2 := Lib.hid hO
 have hl2 := Lib.hid (show l.length ≤ 1000000 by omega)
 clear h AB hK FA hV c18 c23
 obtain ⟨av, cv, hav⟩ := hO.slice
 clear hO
 subst hav
 cases once
 ·have hr := Lib.hid (show ends (pS s x y bud false) t = false from he)
  clear he FB
  go_enter Tryz.func91, Tryz.ntmps91
  go_wp2_with (first
   | (at_builtin; refine pushA rfl _ _ rfl (b + 1) (.slice av l.length cv) l rfl hO2.out rfl hl2.out z1 ?_; intro g5 cap5 w5 hO5 hA5; obtain ⟨q0, q1, q2, q3, q4⟩ := BB.out w5 _ hA5; replace hO5 := Lib.hid hO5; replace hA5 := Lib.hid hA5))
  go_ret
  exact ⟨ret_b hr.out.symm, _, PM.out _ _ hO5.out hA5.out⟩
 ·replace FB := FB.out
  generalize decide (t ∈ secs s.out) = d at *
  have hr := Lib.hid (show ends (pS s x y bud true) t = !d from he)
  replace FB := Lib.hid FB
  clear he
  go_enter Tryz.func91, Tryz.ntmps91
  go_wp2_with (first
   | (at_builtin; refine pushA rfl _ _ rfl (b + 1) (.slice av l.length cv) l rfl hO2.out rfl hl2.out z1 ?_; intro g5 cap5 w5 hO5 hA5; obtain ⟨q0, q1, q2, q3, q4⟩ := BB.out w5 _ hA5; replace hO5 := Lib.hid hO5; replace hA5 := Lib.hid hA5)
   | (go_at_call 53; (with_reducible refine (FB.out _ _ hA5.out).mono ?_); rintro e w6 ⟨rfl, hB6⟩))
  go_ret
  obtain ⟨k1, k2, k3⟩ := PM.out _ _ hO5.out hA5.out
  exact ⟨ret_b hr.out.symm, _, k1.later hB6 (by simpa using q0), k2.below hB6, k3.quiet hB6⟩
theorem meet_any {W : World} {b : Nat} {s : St} {a : Nat → Option Addr} {c : Nat → Nat} {x y bud : Int} {once : Bool} {used : Int} {v : Value} (t : Int) {l : List Int} (hK : WK W b s a c x y bud once used v) (hO : OwnI W (b + 1) v l) (hV : ∀ W2, Below b W W2 → Vals W2 (.slice (a 14) s.out.length (c 14)) s.out) (hn : s.out.length ≤ 1000000) (hl : l.length ≤ 100000) :
  Calls Tryz.prog 91 #[.pointer (some ⟨b, 0, none⟩), .int .i64 t] W (GivesM W b s a c x y bud once used v t l) := by
 cases h : hit (pS s x y bud once) t
 ·exact meet_no t hK hO h
 ·exact meet_yes t hK hO hV hn hl h
end Go.Proofs.YtkbohijlhhpfbaaGreatDoor.Rs
/- The walk through errandref26's Check (printed by gen_rcheck.py). -/
namespace Go.Proofs.YtkbohijlhhpfbaaGreatDoor.Rs
open Go.RowKit Ru Ut Cw Ra Xp
theorem Blk.nineteen {W : World} {b : Nat} {v0 v1 v2 v3 v4 v5 v6 v7 v8 v9 v10 v11 v12 v13 v14 v15 v16 v17 v18 : Value} (h : Blk W b #[v0, v1, v2, v3, v4, v5, v6, v7, v8, v9, v10, v11, v12, v13, v14, v15, v16, v17, v18]) : W.cell? ⟨b, 0, none⟩ = some v0 ∧ W.cell? ⟨b, 1, none⟩ = some v1 ∧ W.cell? ⟨b, 2, none⟩ = some v2 ∧ W.cell? ⟨b, 3, none⟩ = some v3 ∧ W.cell? ⟨b, 4, none⟩ = some v4 ∧ W.cell? ⟨b, 5, none⟩ = some v5 ∧ W.cell? ⟨b, 6, none⟩ = some v6 ∧ W.cell? ⟨b, 7, none⟩ = some v7 ∧ W.cell? ⟨b, 8, none⟩ = some v8 ∧ W.cell? ⟨b, 9, none⟩ = some v9 ∧ W.cell? ⟨b, 10, none⟩ = some v10 ∧ W.cell? ⟨b, 11, none⟩ = some v11 ∧ W.cell? ⟨b, 12, none⟩ = some v12 ∧ W.cell? ⟨b, 13, none⟩ = some v13 ∧ W.cell? ⟨b, 14, none⟩ = some v14 ∧ W.cell? ⟨b, 15, none⟩ = some v15 ∧ W.cell? ⟨b, 16, none⟩ = some v16 ∧ W.cell? ⟨b, 17, none⟩ = some v17 ∧ W.cell? ⟨b, 18, none⟩ = some v18 :=
 ⟨h.2 0 _ rfl, h.2 1 _ rfl, h.2 2 _ rfl, h.2 3 _ rfl, h.2 4 _ rfl, h.2 5 _ rfl, h.2 6 _ rfl, h.2 7 _ rfl, h.2 8 _ rfl, h.2 9 _ rfl, h.2 10 _ rfl, h.2 11 _ rfl, h.2 12 _ rfl, h.2 13 _ rfl, h.2 14 _ rfl, h.2 15 _ rfl, h.2 16 _ rfl, h.2 17 _ rfl, h.2 18 _ rfl⟩
set_option maxHeartbeats 16000000 in
set_option maxRecDepth 100000 in
theorem rc1 (w : World) (s : St) (a : Nat → Option Addr) (c : Nat → Nat) (hL : LS w s (svQ s.rule a c) (.slice (a 13) s.inn.length (c 13)) (.slice (a 14) s.out.length (c 14))) (hW : WS s) (h1 : Mo.chk s.kind s.sec ≠ 0) :
  Calls Tryz.prog 27 #[.agg (setQ s a c)] w fun e w' => e = .returned (.int .i64 (chkS s)) ∧ Below w.heap.size w w' := by
 unfold chkS
 have FM := fun W => Ma.rcheck_any s.kind s.sec hW.2.1 W
 have FR : ∀ W, Below w.heap.size w W → Calls Tryz.prog 37 #[.agg #[.int .u8 s.rule.freq, .int .i64 s.rule.interval, .int .i64 s.rule.count, .int .u8 s.rule.uk, .int .i64 s.rule.us, .slice (a 4) s.rule.sec.length (c 4), .slice (a 5) s.rule.min.length (c 5), .slice (a 6) s.rule.hour.length (c 6), .slice (a 7) s.rule.day.length (c 7), .slice (a 8) s.rule.mday.length (c 8), .slice (a 9) s.rule.yday.length (c 9), .slice (a 10) s.rule.weekno.length (c 10), .slice (a 11) s.rule.month.length (c 11), .slice (a 12) s.rule.setpos.length (c 12), .int .i64 s.rule.wkst]] W fun e w' => e = .returned (.int .i64 (chkR s.rule)) ∧ Below W.heap.size W w' := fun W hB => rcheckR_any W s.rule (svQ s.rule a c) (hL.1.later hB) hW.1.1 hW.1.2.1.2 hW.1.2.1.1
 have FI : ∀ W, Below w.heap.size w W → Calls Tryz.prog 60 #[.slice (a 13) s.inn.length (c 13), .int .u8 s.kind] W fun e w' => e = .returned (.int .i64 (alike s.kind s.inn)) ∧ Below W.heap.size W w' := fun W hB => rdates_any s.kind (hL.2.1.below hB) hW.2.2.1 (by have := hW.2.2.2.2.1; omega)
 have FO : ∀ W, Below w.heap.size w W → Calls Tryz.prog 60 #[.slice (a 14) s.out.length (c 14), .int .u8 s.kind] W fun e w' => e = .returned (.int .i64 (alike s.kind s.out)) ∧ Below W.heap.size W w' := fun W hB => rdates_any s.kind (hL.2.2.below hB) hW.2.2.2.1 (by have := hW.2.2.2.2.2; omega)
 have n4 : s.rule.sec.length ≤ 1000 := hW.1.1.1 4 (by decide) (by decide) (by decide)
 have n5 : s.rule.min.length ≤ 1000 := hW.1.1.1 5 (by decide) (by decide) (by decide)
 have n6 : s.rule.hour.length ≤ 1000 := hW.1.1.1 6 (by decide) (by decide) (by decide)
 have ni := hW.2.2.2.2.1
 have no := hW.2.2.2.2.2
 unfold setQ Ma.val at *
 clear hL hW
 rw [if_pos h1]
 have q1 : (Mo.chk s.kind s.sec != 0) = true := by simp [h1]
 clear h1 FR FI FO
 replace FM := Lib.hid FM
 as_aux_lemma =>
 go_enter Tryz.func27, Tryz.ntmps27
 go_wp2_with (first
  | (go_at_call 59; (with_reducible refine (FM.out _).mono ?_); rintro e w1 ⟨rfl, hB1⟩; have K1 := Lib.hid (Blk.mk hB1); have B1 := Lib.hid (Below.next (Below.next_alloc (Below.refl _ w) _) hB1); clear hB1; obtain ⟨s0, s1, s2, s3, s4, s5, s6, s7, s8, s9, s10, s11, s12, s13, s14, s15, s16, s17, s18⟩ := K1.out.nineteen; have z1 := K1.out.1))
 go_ret
 exact ⟨rfl, B1.out⟩
set_option maxHeartbeats 16000000 in
set_option maxRecDepth 100000 in
theorem rc2 (w : World) (s : St) (a : Nat → Option Addr) (c : Nat → Nat) (hL : LS w s (svQ s.rule a c) (.slice (a 13) s.inn.length (c 13)) (.slice (a 14) s.out.length (c 14))) (hW : WS s) (h1 : ¬ Mo.chk s.kind s.sec ≠ 0) (h2 : chkR s.rule ≠ 0) :
  Calls Tryz.prog 27 #[.agg (setQ s a c)] w fun e w' => e = .returned (.int .i64 (chkS s)) ∧ Below w.heap.size w w' := by
 unfold chkS
 have FM := fun W => Ma.rcheck_any s.kind s.sec hW.2.1 W
 have FR : ∀ W, Below w.heap.size w W → Calls Tryz.prog 37 #[.agg #[.int .u8 s.rule.freq, .int .i64 s.rule.interval, .int .i64 s.rule.count, .int .u8 s.rule.uk, .int .i64 s.rule.us, .slice (a 4) s.rule.sec.length (c 4), .slice (a 5) s.rule.min.length (c 5), .slice (a 6) s.rule.hour.length (c 6), .slice (a 7) s.rule.day.length (c 7), .slice (a 8) s.rule.mday.length (c 8), .slice (a 9) s.rule.yday.length (c 9), .slice (a 10) s.rule.weekno.length (c 10), .slice (a 11) s.rule.month.length (c 11), .slice (a 12) s.rule.setpos.length (c 12), .int .i64 s.rule.wkst]] W fun e w' => e = .returned (.int .i64 (chkR s.rule)) ∧ Below W.heap.size W w' := fun W hB => rcheckR_any W s.rule (svQ s.rule a c) (hL.1.later hB) hW.1.1 hW.1.2.1.2 hW.1.2.1.1
 have FI : ∀ W, Below w.heap.size w W → Calls Tryz.prog 60 #[.slice (a 13) s.inn.length (c 13), .int .u8 s.kind] W fun e w' => e = .returned (.int .i64 (alike s.kind s.inn)) ∧ Below W.heap.size W w' := fun W hB => rdates_any s.kind (hL.2.1.below hB) hW.2.2.1 (by have := hW.2.2.2.2.1; omega)
 have FO : ∀ W, Below w.heap.size w W → Calls Tryz.prog 60 #[.slice (a 14) s.out.length (c 14), .int .u8 s.kind] W fun e w' => e = .returned (.int .i64 (alike s.kind s.out)) ∧ Below W.heap.size W w' := fun W hB => rdates_any s.kind (hL.2.2.below hB) hW.2.2.2.1 (by have := hW.2.2.2.2.2; omega)
 have n4 : s.rule.sec.length ≤ 1000 := hW.1.1.1 4 (by decide) (by decide) (by decide)
 have n5 : s.rule.min.length ≤ 1000 := hW.1.1.1 5 (by decide) (by decide) (by decide)
 have n6 : s.rule.hour.length ≤ 1000 := hW.1.1.1 6 (by decide) (by decide) (by decide)
 have ni := hW.2.2.2.2.1
 have no := hW.2.2.2.2.2
 unfold setQ Ma.val at *
 clear hL hW
 rw [if_neg h1]
 have h1' : Mo.chk s.kind s.sec = 0 := Decidable.byContradiction h1
 rw [h1'] at FM
 clear h1 h1'
 rw [if_pos h2]
 have q1 : (chkR s.rule != 0) = true := by simp [h2]
 clear h2 FI FO
 replace FM := Lib.hid FM
 replace FR := Lib.hid FR
 as_aux_lemma =>
 go_enter Tryz.func27, Tryz.ntmps27
 go_wp2_with (first
  | (go_at_call 59; (with_reducible refine (FM.out _).mono ?_); rintro e w1 ⟨rfl, hB1⟩; have K1 := Lib.hid (Blk.mk hB1); have B1 := Lib.hid (Below.next (Below.next_alloc (Below.refl _ w) _) hB1); clear hB1; obtain ⟨s0, s1, s2, s3, s4, s5, s6, s7, s8, s9, s10, s11, s12, s13, s14, s15, s16, s17, s18⟩ := K1.out.nineteen; have z1 := K1.out.1)
  | (go_at_call 37; (with_reducible refine (FR.out _ (Below.next_alloc B1.out _)).mono ?_); rintro e w2 ⟨rfl, hB2⟩; have KR := Lib.hid (Blk.mk hB2); have b2 := Lib.hid (Below.next (Below.next_alloc (Below.refl _ w1) _) hB2); have B2 := Lib.hid (Below.next B1.out b2.out); have K2 := Lib.hid (K1.out.later b2.out K1.out.1); clear hB2 s0 s1 s2 s3 s4 s5 s6 s7 s8 s9 s10 s11 s12 s13 s14 s15 s16 s17 s18 z1; obtain ⟨s0, s1, s2, s3, s4, s5, s6, s7, s8, s9, s10, s11, s12, s13, s14, s15, s16, s17, s18⟩ := K2.out.nineteen; obtain ⟨r0, r1, r2, r3, r4, r5, r6, r7, r8, r9, r10, r11, r12, r13, r14⟩ := KR.out.fifteen; have z2 := K2.out.1; have z2r := KR.out.1))
 go_ret
 exact ⟨rfl, B2.out⟩
set_option maxHeartbeats 16000000 in
set_option maxRecDepth 100000 in
theorem rc3 (w : World) (s : St) (a : Nat → Option Addr) (c : Nat → Nat) (hL : LS w s (svQ s.rule a c) (.slice (a 13) s.inn.length (c 13)) (.slice (a 14) s.out.length (c 14))) (hW : WS s) (h1 : ¬ Mo.chk s.kind s.sec ≠ 0) (h2 : ¬ chkR s.rule ≠ 0) (h3 : s.rule.uk ≠ 0 ∧ s.rule.uk ≠ s.kind) :
  Calls Tryz.prog 27 #[.agg (setQ s a c)] w fun e w' => e = .returned (.int .i64 (chkS s)) ∧ Below w.heap.size w w' := by
 unfold chkS
 have FM := fun W => Ma.rcheck_any s.kind s.sec hW.2.1 W
 have FR : ∀ W, Below w.heap.size w W → Calls Tryz.prog 37 #[.agg #[.int .u8 s.rule.freq, .int .i64 s.rule.interval, .int .i64 s.rule.count, .int .u8 s.rule.uk, .int .i64 s.rule.us, .slice (a 4) s.rule.sec.length (c 4), .slice (a 5) s.rule.min.length (c 5), .slice (a 6) s.rule.hour.length (c 6), .slice (a 7) s.rule.day.length (c 7), .slice (a 8) s.rule.mday.length (c 8), .slice (a 9) s.rule.yday.length (c 9), .slice (a 10) s.rule.weekno.length (c 10), .slice (a 11) s.rule.month.length (c 11), .slice (a 12) s.rule.setpos.length (c 12), .int .i64 s.rule.wkst]] W fun e w' => e = .returned (.int .i64 (chkR s.rule)) ∧ Below W.heap.size W w' := fun W hB => rcheckR_any W s.rule (svQ s.rule a c) (hL.1.later hB) hW.1.1 hW.1.2.1.2 hW.1.2.1.1
 have FI : ∀ W, Below w.heap.size w W → Calls Tryz.prog 60 #[.slice (a 13) s.inn.length (c 13), .int .u8 s.kind] W fun e w' => e = .returned (.int .i64 (alike s.kind s.inn)) ∧ Below W.heap.size W w' := fun W hB => rdates_any s.kind (hL.2.1.below hB) hW.2.2.1 (by have := hW.2.2.2.2.1; omega)
 have FO : ∀ W, Below w.heap.size w W → Calls Tryz.prog 60 #[.slice (a 14) s.out.length (c 14), .int .u8 s.kind] W fun e w' => e = .returned (.int .i64 (alike s.kind s.out)) ∧ Below W.heap.size W w' := fun W hB => rdates_any s.kind (hL.2.2.below hB) hW.2.2.2.1 (by have := hW.2.2.2.2.2; omega)
 have n4 : s.rule.sec.length ≤ 1000 := hW.1.1.1 4 (by decide) (by decide) (by decide)
 have n5 : s.rule.min.length ≤ 1000 := hW.1.1.1 5 (by decide) (by decide) (by decide)
 have n6 : s.rule.hour.length ≤ 1000 := hW.1.1.1 6 (by decide) (by decide) (by decide)
 have ni := hW.2.2.2.2.1
 have no := hW.2.2.2.2.2
 unfold setQ Ma.val at *
 clear hL hW
 rw [if_neg h1]
 have h1' : Mo.chk s.kind s.sec = 0 := Decidable.byContradiction h1
 rw [h1'] at FM
 clear h1 h1'
 rw [if_neg h2]
 have h2' : chkR s.rule = 0 := Decidable.byContradiction h2
 rw [h2'] at FR
 clear h2 h2'
 rw [if_pos h3]
 have q1 : (s.rule.uk != 0) = true := by simp [h3.1]
 have q2 : (s.rule.uk != s.kind) = true := by simp [h3.2]
 clear h3 FI FO
 replace FM := Lib.hid FM
 replace FR := Lib.hid FR
 as_aux_lemma =>
 go_enter Tryz.func27, Tryz.ntmps27
 go_wp2_with (first
  | (go_at_call 59; (with_reducible refine (FM.out _).mono ?_); rintro e w1 ⟨rfl, hB1⟩; have K1 := Lib.hid (Blk.mk hB1); have B1 := Lib.hid (Below.next (Below.next_alloc (Below.refl _ w) _) hB1); clear hB1; obtain ⟨s0, s1, s2, s3, s4, s5, s6, s7, s8, s9, s10, s11, s12, s13, s14, s15, s16, s17, s18⟩ := K1.out.nineteen; have z1 := K1.out.1)
  | (go_at_call 37; (with_reducible refine (FR.out _ (Below.next_alloc B1.out _)).mono ?_); rintro e w2 ⟨rfl, hB2⟩; have KR := Lib.hid (Blk.mk hB2); have b2 := Lib.hid (Below.next (Below.next_alloc (Below.refl _ w1) _) hB2); have B2 := Lib.hid (Below.next B1.out b2.out); have K2 := Lib.hid (K1.out.later b2.out K1.out.1); clear hB2 s0 s1 s2 s3 s4 s5 s6 s7 s8 s9 s10 s11 s12 s13 s14 s15 s16 s17 s18 z1; obtain ⟨s0, s1, s2, s3, s4, s5, s6, s7, s8, s9, s10, s11, s12, s13, s14, s15, s16, s17, s18⟩ := K2.out.nineteen; obtain ⟨r0, r1, r2, r3, r4, r5, r6, r7, r8, r9, r10, r11, r12, r13, r14⟩ := KR.out.fifteen; have z2 := K2.out.1; have z2r := KR.out.1))
 go_ret
 exact ⟨rfl, B2.out⟩
end Go.Proofs.YtkbohijlhhpfbaaGreatDoor.Rs

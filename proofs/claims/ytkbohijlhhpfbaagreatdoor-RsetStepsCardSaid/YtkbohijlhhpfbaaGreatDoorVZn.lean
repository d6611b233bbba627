/- Laws for a walk by hand through a region that draws its order: a struct that is built, and stored whole; a set that is built. -/
import Derived.Test.YtkbohijlhhpfbaaGreatDoorVYy
import Derived.Deep.RegionHeld3
namespace Go.Proofs.YtkbohijlhhpfbaaGreatDoor.Rs
open Go.RowKit Ru Ut Cw Ra Xp
theorem rangeAt_below {W0 W : World} {b o B : Nat} {cs : List Value} (h : W0.rangeAt b o cs) (hB : Below B W0 W) (hb : b < B) : W.rangeAt b o cs := fun j v hv => (hB.cell (p := ⟨b, o + j, none⟩) hb).trans (h j v hv)
theorem below_setRow (W : World) (n : Nat) (cs : Array Value) {B : Nat} (hB : B ≤ n) : Below B W (W.setRow n cs) :=
 ⟨rfl, rfl, rfl, by simp [World.setRow], fun k hk => setRow_other W n k cs (by omega)⟩
theorem setRow_size (W : World) (n : Nat) (c : Array Value) : (W.setRow n c).heap.size = W.heap.size := by simp [World.setRow]
theorem wp_build_as {op : Oper} {a : Act} {w : World} {K : Act → World → Prop} {Q : Exit → Act → World → Prop} (d : Tmp) (hd : op.dst = some d) (t : TypeId) (parts : Array (Nat × Operand)) (ho : op.op = .build t parts)
  (qs : List (Nat × Value)) (hq : (parts.map fun (i, x) => (i, a.eval x)).toList = qs) (cells : Array Value) (hc : Tryz.prog.built t qs = some cells)
  (h : K (a.put (some d) (.agg cells)) w) : op.wp Tryz.prog a w K Q := by
 subst hq
 rw [← hd] at h
 exact wp_build t parts ho (by rw [hc]; rfl) (by rw [hc]; exact h)
theorem wp_store_at {op : Oper} {a : Act} {W : World} {K : Act → World → Prop} {Q : Exit → Act → World → Prop} {t : TypeId} {c : Array Value} (hd : op.dst = none) (ty : TypeId) (x y : Operand) (ho : op.op = .store ty x y)
  (c' : Array Value) (n : Nat) (hx : a.eval x = .pointer (some ⟨n, 0, none⟩)) (hh : W.heap[n]? = some (.cells c t)) (hy : a.eval y = .agg c') (hi : (Tryz.prog.info? ty).map (·.size) = some c'.size) (hs : c.size = c'.size) (h1 : c'.all (·.oneCell') = true)
  (h : K a (W.setRow n c')) : op.wp Tryz.prog a W K Q := by
 unfold Oper.wp execOp
 have := run_storeVar_row (P := Tryz.prog) W n t ty c c' hh hi hs h1
 simp only [ho, hx, hy, Instr.storeAt, Instr.sureAddr, Sem.run_bind, Sem.run_pure, Result.andThen_ok, this]
 have e : a.put op.dst undef = a := by rw [hd]; rfl
 show K (a.put op.dst undef) _
 rw [e]; exact h
theorem wp_store_new {op : Oper} {a : Act} {W : World} {K : Act → World → Prop} {Q : Exit → Act → World → Prop} {t : TypeId} {c : Array Value} (hd : op.dst = none) (ty : TypeId) (x y : Operand) (ho : op.op = .store ty x y)
  (c' : Array Value) (n : Nat) (hx : a.eval x = .pointer (some ⟨n, 0, none⟩)) (hn : n = W.heap.size) (hy : a.eval y = .agg c') (hi : (Tryz.prog.info? ty).map (·.size) = some c'.size) (hs : c.size = c'.size) (h1 : c'.all (·.oneCell') = true)
  (h : K a (W.alloc (.cells c' t))) : op.wp Tryz.prog a (W.alloc (.cells c t)) K Q := by
 refine wp_store_at hd ty x y ho c' n hx (by rw [hn]; exact heap_alloc_last W _) hy hi hs h1 ?_
 rw [hn, World.setRow_alloc_new]; exact h
theorem wpList_load_on {ops : Array Oper} {rest : List Oper} {op : Oper} {a : Act} {w : World} {Q : Exit → Act → World → Prop} (hw : Region.wanted op (yielded ops a.tmps) = true) (ty : TypeId) (x : Operand) (ho : op.op = .load ty x)
  (b o : Nat) (hx : a.eval x = .pointer (some ⟨b, o, none⟩)) (cs : Array Value) (d : TypeDesc) (hc : w.rangeAt b o cs.toList)
  (hu : Tryz.prog.underlying ty = some d) (hd : d.isRow = true) (hi : (Tryz.prog.info? ty).map (·.size) = some cs.size)
  (h : wpList Tryz.prog ops Q rest (a.put op.dst (.agg cs)) w) : wpList Tryz.prog ops Q (op :: rest) a w :=
 wpList_step fun K hK => by
  rw [if_pos hw]
  exact wp_load_mid ty x ho b o hx cs.toList d hc hu hd (by simpa using hi) (hK _ _ (by simpa using h))
theorem builtSet (k s : Int) (v0 v1 v2 v3 v4 v5 v6 v7 v8 v9 v10 v11 v12 v13 v14 : Value) (a1 a2 : Option Addr) (n1 n2 c1 c2 : Nat) : Tryz.prog.built 48 [(0, .agg #[.int .u8 k, .int .i64 s]), (1, .agg #[v0, v1, v2, v3, v4, v5, v6, v7, v8, v9, v10, v11, v12, v13, v14]), (2, .slice a1 n1 c1), (3, .slice a2 n2 c2)] = some #[.int .u8 k, .int .i64 s, v0, v1, v2, v3, v4, v5, v6, v7, v8, v9, v10, v11, v12, v13, v14, .slice a1 n1 c1, .slice a2 n2 c2] := by kernel_rfl
end Go.Proofs.YtkbohijlhhpfbaaGreatDoor.Rs

/- The walk through errandlaw31's awake (printed by gen_awake.py). -/
import Derived.Test.YthelkkbjflohgaaHh
namespace Go.Proofs.Ythelkkbjflohgaa.Ds
open Go.RowKit Ut Gr Go.Maps
theorem nAB : ((⟨#[97]⟩ : ByteArray) : ByteArray) ≠ (⟨#[98]⟩ : ByteArray) := by decide
theorem nAC : ((⟨#[97]⟩ : ByteArray) : ByteArray) ≠ (⟨#[99]⟩ : ByteArray) := by decide
theorem nBC : ((⟨#[98]⟩ : ByteArray) : ByteArray) ≠ (⟨#[99]⟩ : ByteArray) := by decide
/-- a row of n edges, and a number -/
def GivesT (w : World) (n : Nat) (k : Int) (e : Ending) (w' : World) : Prop := ∃ a c, e = .returned (.tuple #[.slice a n c, .int .i64 k]) ∧ Below w.heap.size w w'
def GivesN (w : World) (m : Nat) (n : List (ByteArray × ByteArray)) (e : Ending) (w' : World) : Prop := ∃ a c, e = .returned (.tuple #[.slice a m c, .int .i64 0]) ∧ Edgs w' (.slice a m c) n ∧ Below w.heap.size w w'
def GivesV (w : World) (l : List ByteArray) (b : Bool) (e : Ending) (w' : World) : Prop := ∃ x, e = .returned (.tuple #[x, .bool b]) ∧ Strs w' x l ∧ Below w.heap.size w w'
theorem short0 : Short [((⟨#[97]⟩ : ByteArray), (⟨#[98]⟩ : ByteArray)), ((⟨#[98]⟩ : ByteArray), (⟨#[99]⟩ : ByteArray))] := by unfold Short; decide
theorem short1 : Short [((⟨#[97]⟩ : ByteArray), (⟨#[98]⟩ : ByteArray)), ((⟨#[98]⟩ : ByteArray), (⟨#[99]⟩ : ByteArray)), ((⟨#[97]⟩ : ByteArray), (⟨#[99]⟩ : ByteArray))] := by unfold Short; decide
theorem short2 : Short [((⟨#[120]⟩ : ByteArray), (⟨#[120]⟩ : ByteArray))] := by unfold Short; decide
theorem aw_add1 {W : World} {v : Value} (h : Edgs W v [((⟨#[97]⟩ : ByteArray), (⟨#[98]⟩ : ByteArray)), ((⟨#[98]⟩ : ByteArray), (⟨#[99]⟩ : ByteArray))]) : Calls Try.prog 21 #[v, .agg #[.string (⟨#[99]⟩ : ByteArray), .string (⟨#[97]⟩ : ByteArray)]] W (GivesT W 2 14) := by
  refine (add_any (⟨#[99]⟩ : ByteArray) (⟨#[97]⟩ : ByteArray) h (by decide) short0 (by decide)).mono ?_
  have hr : addL [((⟨#[97]⟩ : ByteArray), (⟨#[98]⟩ : ByteArray)), ((⟨#[98]⟩ : ByteArray), (⟨#[99]⟩ : ByteArray))] ((⟨#[99]⟩ : ByteArray), (⟨#[97]⟩ : ByteArray)) = ([((⟨#[97]⟩ : ByteArray), (⟨#[98]⟩ : ByteArray)), ((⟨#[98]⟩ : ByteArray), (⟨#[99]⟩ : ByteArray))], 14) := by
    unfold addL
    rw [if_neg (by decide), if_pos (c := loops [((⟨#[97]⟩ : ByteArray), (⟨#[98]⟩ : ByteArray)), ((⟨#[98]⟩ : ByteArray), (⟨#[99]⟩ : ByteArray))] ((⟨#[99]⟩ : ByteArray), (⟨#[97]⟩ : ByteArray)) = true) (loops_iff.2 (.inr (aw_way (b := (⟨#[98]⟩ : ByteArray)))))]
  rw [hr]
  rintro e w' ⟨u, rfl, hE, hB⟩
  obtain ⟨a, c, rfl⟩ := hE.slice
  exact ⟨a, c, rfl, hB⟩
theorem aw_add2 {W : World} {v : Value} (h : Edgs W v [((⟨#[97]⟩ : ByteArray), (⟨#[98]⟩ : ByteArray)), ((⟨#[98]⟩ : ByteArray), (⟨#[99]⟩ : ByteArray))]) : Calls Try.prog 21 #[v, .agg #[.string (⟨#[97]⟩ : ByteArray), .string (⟨#[99]⟩ : ByteArray)]] W (GivesN W 3 [((⟨#[97]⟩ : ByteArray), (⟨#[98]⟩ : ByteArray)), ((⟨#[98]⟩ : ByteArray), (⟨#[99]⟩ : ByteArray)), ((⟨#[97]⟩ : ByteArray), (⟨#[99]⟩ : ByteArray))]) := by
  refine (add_any (⟨#[97]⟩ : ByteArray) (⟨#[99]⟩ : ByteArray) h (by decide) short0 (by decide)).mono ?_
  have hr : addL [((⟨#[97]⟩ : ByteArray), (⟨#[98]⟩ : ByteArray)), ((⟨#[98]⟩ : ByteArray), (⟨#[99]⟩ : ByteArray))] ((⟨#[97]⟩ : ByteArray), (⟨#[99]⟩ : ByteArray)) = ([((⟨#[97]⟩ : ByteArray), (⟨#[98]⟩ : ByteArray)), ((⟨#[98]⟩ : ByteArray), (⟨#[99]⟩ : ByteArray)), ((⟨#[97]⟩ : ByteArray), (⟨#[99]⟩ : ByteArray))], 0) := by
    unfold addL
    rw [if_neg (by decide), if_neg (fun hh => by rcases loops_iff.1 hh with h | h; exact nAC h.symm; exact aw_no nAC nBC h)]
    rfl
  rw [hr]
  rintro e w' ⟨u, rfl, hE, hB⟩
  obtain ⟨a, c, rfl⟩ := hE.slice
  exact ⟨a, c, rfl, hE, hB⟩
theorem aw_ord1 {W : World} {v u : Value} (h : Edgs W v [((⟨#[97]⟩ : ByteArray), (⟨#[98]⟩ : ByteArray)), ((⟨#[98]⟩ : ByteArray), (⟨#[99]⟩ : ByteArray)), ((⟨#[97]⟩ : ByteArray), (⟨#[99]⟩ : ByteArray))]) (k : Strs W u [(⟨#[97]⟩ : ByteArray), (⟨#[98]⟩ : ByteArray), (⟨#[99]⟩ : ByteArray)]) : Calls Try.prog 10 #[v, u] W (GivesV W [(⟨#[99]⟩ : ByteArray), (⟨#[98]⟩ : ByteArray), (⟨#[97]⟩ : ByteArray)] true) := by
  refine (order_any h (by decide) short1 k (by decide) (by decide)).mono ?_
  rintro e w' ⟨o, b, x, rfl, hR, hO, hB⟩
  obtain ⟨rfl, rfl⟩ := run_unique (fun h k => ltN_asymm h k) hR (aw_run ltN nAB nAC nBC)
  exact ⟨x, rfl, hO.strs, hB⟩
theorem aw_ord2 {W : World} {v u : Value} (h : Edgs W v [((⟨#[120]⟩ : ByteArray), (⟨#[120]⟩ : ByteArray))]) (k : Strs W u [(⟨#[120]⟩ : ByteArray)]) : Calls Try.prog 10 #[v, u] W (GivesV W [] false) := by
  refine (order_any h (by decide) short2 k (by decide) (by decide)).mono ?_
  rintro e w' ⟨o, b, x, rfl, hR, hO, hB⟩
  obtain ⟨rfl, rfl⟩ := run_unique (fun h k => ltN_asymm h k) hR (aw_self ltN)
  exact ⟨x, rfl, hO.strs, hB⟩
theorem aw_ord3 (w : World) (T T' : TypeId) : Calls Try.prog 10 #[.slice (some ⟨w.heap.size, 0, none⟩) 1 1, .slice (some ⟨w.heap.size + 1, 0, none⟩) 1 1] ((w.alloc (.cells #[.string (⟨#[120]⟩ : ByteArray), .string (⟨#[120]⟩ : ByteArray)] T)).alloc (.cells #[.string (⟨#[120]⟩ : ByteArray)] T')) (GivesV ((w.alloc (.cells #[.string (⟨#[120]⟩ : ByteArray), .string (⟨#[120]⟩ : ByteArray)] T)).alloc (.cells #[.string (⟨#[120]⟩ : ByteArray)] T')) [] false) := by
  have h := strs1 (w.alloc (.cells #[.string (⟨#[120]⟩ : ByteArray), .string (⟨#[120]⟩ : ByteArray)] T)) (⟨#[120]⟩ : ByteArray) T'
  rw [World.size_alloc] at h
  exact aw_ord2 ((edgs1 w (⟨#[120]⟩ : ByteArray) (⟨#[120]⟩ : ByteArray) T).below (Below.next_alloc (Below.refl _ _) _)) h
theorem aw_drop1 {W : World} {v : Value} (h : Edgs W v [((⟨#[97]⟩ : ByteArray), (⟨#[98]⟩ : ByteArray)), ((⟨#[98]⟩ : ByteArray), (⟨#[99]⟩ : ByteArray)), ((⟨#[97]⟩ : ByteArray), (⟨#[99]⟩ : ByteArray))]) : Calls Try.prog 23 #[v, .agg #[.string (⟨#[98]⟩ : ByteArray), .string (⟨#[99]⟩ : ByteArray)]] W (GivesT W 2 0) := by
  refine (drop_any (⟨#[98]⟩ : ByteArray) (⟨#[99]⟩ : ByteArray) h (by decide)).mono ?_
  have hr : dropL [((⟨#[97]⟩ : ByteArray), (⟨#[98]⟩ : ByteArray)), ((⟨#[98]⟩ : ByteArray), (⟨#[99]⟩ : ByteArray)), ((⟨#[97]⟩ : ByteArray), (⟨#[99]⟩ : ByteArray))] ((⟨#[98]⟩ : ByteArray), (⟨#[99]⟩ : ByteArray)) = ([((⟨#[97]⟩ : ByteArray), (⟨#[98]⟩ : ByteArray)), ((⟨#[97]⟩ : ByteArray), (⟨#[99]⟩ : ByteArray))], 0) := by decide
  rw [hr]
  rintro e w' ⟨u, rfl, hE, hB⟩
  obtain ⟨a, c, rfl⟩ := hE.slice
  exact ⟨a, c, rfl, hB⟩
theorem aw_drop2 {W : World} {v : Value} (h : Edgs W v [((⟨#[97]⟩ : ByteArray), (⟨#[98]⟩ : ByteArray)), ((⟨#[98]⟩ : ByteArray), (⟨#[99]⟩ : ByteArray))]) : Calls Try.prog 23 #[v, .agg #[.string (⟨#[99]⟩ : ByteArray), .string (⟨#[98]⟩ : ByteArray)]] W (GivesT W 2 6) := by
  refine (drop_any (⟨#[99]⟩ : ByteArray) (⟨#[98]⟩ : ByteArray) h (by decide)).mono ?_
  have hr : dropL [((⟨#[97]⟩ : ByteArray), (⟨#[98]⟩ : ByteArray)), ((⟨#[98]⟩ : ByteArray), (⟨#[99]⟩ : ByteArray))] ((⟨#[99]⟩ : ByteArray), (⟨#[98]⟩ : ByteArray)) = ([((⟨#[97]⟩ : ByteArray), (⟨#[98]⟩ : ByteArray)), ((⟨#[98]⟩ : ByteArray), (⟨#[99]⟩ : ByteArray))], 6) := by decide
  rw [hr]
  rintro e w' ⟨u, rfl, hE, hB⟩
  obtain ⟨a, c, rfl⟩ := hE.slice
  exact ⟨a, c, rfl, hB⟩
theorem aw_same {W : World} {v u : Value} {l : List ByteArray} (h : Strs W v l) (k : Strs W u l) (hn : l.length ≤ 1000000) : Calls Try.prog 12 #[v, u] W fun e w' => e = .returned (.bool true) ∧ Below W.heap.size W w' := by
  have := rSameTexts_any h k hn hn
  rwa [same_yes rfl] at this
theorem aw_reach1 {W : World} {v : Value} (h : Edgs W v [((⟨#[97]⟩ : ByteArray), (⟨#[98]⟩ : ByteArray)), ((⟨#[98]⟩ : ByteArray), (⟨#[99]⟩ : ByteArray))]) : Calls Try.prog 13 #[v, .string (⟨#[97]⟩ : ByteArray), .string (⟨#[99]⟩ : ByteArray)] W fun e w' => e = .returned (.bool true) ∧ Below W.heap.size W w' := by
  have := reach_any (⟨#[97]⟩ : ByteArray) (⟨#[99]⟩ : ByteArray) h (by decide) short0 (by decide)
  rwa [way_iff.2 aw_way] at this
theorem aw_reach2 {W : World} {v : Value} (h : Edgs W v [((⟨#[97]⟩ : ByteArray), (⟨#[98]⟩ : ByteArray)), ((⟨#[98]⟩ : ByteArray), (⟨#[99]⟩ : ByteArray))]) : Calls Try.prog 13 #[v, .string (⟨#[99]⟩ : ByteArray), .string (⟨#[97]⟩ : ByteArray)] W fun e w' => e = .returned (.bool false) ∧ Below W.heap.size W w' := by
  have := reach_any (⟨#[99]⟩ : ByteArray) (⟨#[97]⟩ : ByteArray) h (by decide) short0 (by decide)
  rwa [way_no.2 (aw_no nAC nBC)] at this
theorem aw_acy {W : World} {v : Value} (h : Edgs W v [((⟨#[97]⟩ : ByteArray), (⟨#[98]⟩ : ByteArray)), ((⟨#[98]⟩ : ByteArray), (⟨#[99]⟩ : ByteArray))]) : Calls Try.prog 15 #[v] W fun e w' => e = .returned (.bool true) ∧ Below W.heap.size W w' := by
  have := acyclic_any h (by decide) short0
  rwa [acyc_iff.2 (aw_acyc nAB nAC nBC)] at this
def GivesL (w : World) (l : List ByteArray) (e : Ending) (w' : World) : Prop := ∃ v, e = .returned v ∧ Strs w' v l ∧ Below w.heap.size w w'
theorem aw_of {W : World} {v : Value} (h : Edgs W v [((⟨#[97]⟩ : ByteArray), (⟨#[98]⟩ : ByteArray)), ((⟨#[98]⟩ : ByteArray), (⟨#[99]⟩ : ByteArray)), ((⟨#[97]⟩ : ByteArray), (⟨#[99]⟩ : ByteArray))]) : Calls Try.prog 17 #[v, .string (⟨#[97]⟩ : ByteArray)] W (GivesL W [(⟨#[98]⟩ : ByteArray), (⟨#[99]⟩ : ByteArray)]) := by
  refine (of_any (⟨#[97]⟩ : ByteArray) h (by decide)).mono ?_
  rw [show ofL [((⟨#[97]⟩ : ByteArray), (⟨#[98]⟩ : ByteArray)), ((⟨#[98]⟩ : ByteArray), (⟨#[99]⟩ : ByteArray)), ((⟨#[97]⟩ : ByteArray), (⟨#[99]⟩ : ByteArray))] (⟨#[97]⟩ : ByteArray) = [(⟨#[98]⟩ : ByteArray), (⟨#[99]⟩ : ByteArray)] by decide]
  rintro e w' ⟨u, rfl, hS, hB⟩
  exact ⟨u, rfl, hS.strs, hB⟩
theorem aw_on {W : World} {v : Value} (h : Edgs W v [((⟨#[97]⟩ : ByteArray), (⟨#[98]⟩ : ByteArray)), ((⟨#[98]⟩ : ByteArray), (⟨#[99]⟩ : ByteArray)), ((⟨#[97]⟩ : ByteArray), (⟨#[99]⟩ : ByteArray))]) : Calls Try.prog 19 #[v, .string (⟨#[99]⟩ : ByteArray)] W (GivesL W [(⟨#[98]⟩ : ByteArray), (⟨#[97]⟩ : ByteArray)]) := by
  refine (on_any (⟨#[99]⟩ : ByteArray) h (by decide)).mono ?_
  rw [show onL [((⟨#[97]⟩ : ByteArray), (⟨#[98]⟩ : ByteArray)), ((⟨#[98]⟩ : ByteArray), (⟨#[99]⟩ : ByteArray)), ((⟨#[97]⟩ : ByteArray), (⟨#[99]⟩ : ByteArray))] (⟨#[99]⟩ : ByteArray) = [(⟨#[98]⟩ : ByteArray), (⟨#[97]⟩ : ByteArray)] by decide]
  rintro e w' ⟨u, rfl, hS, hB⟩
  exact ⟨u, rfl, hS.strs, hB⟩
end Go.Proofs.Ythelkkbjflohgaa.Ds

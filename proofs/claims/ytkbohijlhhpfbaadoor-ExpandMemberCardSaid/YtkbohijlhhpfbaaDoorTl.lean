import Derived.Test.YtkbohijlhhpfbaaDoorTj
import Derived.Test.YtkbohijlhhpfbaaDoorRq
/- What the document's answer lets pass: the walks through errandref24's small functions (printed by gen_rsmall.py). -/
namespace Go.Proofs.YtkbohijlhhpfbaaDoor.Tm
open Go.RowKit Ru Ut Cw Ra
theorem rboxT (w : World) (r : R) (sv : Nat → Value) (t : TypeId) {W : World} (hB : Below (w.alloc (.cells (ruleC r sv) t)).heap.size (w.alloc (.cells (ruleC r sv) t)) W) : w.heap.size < W.heap.size ∧ W.cell? ⟨w.heap.size, 0, none⟩ = some (.int .u8 r.freq) ∧ W.cell? ⟨w.heap.size, 1, none⟩ = some (.int .i64 r.interval) ∧ W.cell? ⟨w.heap.size, 2, none⟩ = some (.int .i64 r.count) ∧ W.cell? ⟨w.heap.size, 3, none⟩ = some (.int .u8 r.uk) ∧ W.cell? ⟨w.heap.size, 4, none⟩ = some (.int .i64 r.us) ∧ W.cell? ⟨w.heap.size, 5, none⟩ = some (sv 4) ∧ W.cell? ⟨w.heap.size, 6, none⟩ = some (sv 5) ∧ W.cell? ⟨w.heap.size, 7, none⟩ = some (sv 6) ∧ W.cell? ⟨w.heap.size, 8, none⟩ = some (sv 7) ∧ W.cell? ⟨w.heap.size, 9, none⟩ = some (sv 8) ∧ W.cell? ⟨w.heap.size, 10, none⟩ = some (sv 9) ∧ W.cell? ⟨w.heap.size, 11, none⟩ = some (sv 10) ∧ W.cell? ⟨w.heap.size, 12, none⟩ = some (sv 11) ∧ W.cell? ⟨w.heap.size, 13, none⟩ = some (sv 12) ∧ W.cell? ⟨w.heap.size, 14, none⟩ = some (.int .i64 r.wkst) := by
  obtain ⟨h0, h1, h2, h3, h4, h5, h6, h7⟩ := (RAt.box w r sv t).later hB
  exact ⟨h0, h1, h2, h3, h4, h5, h7 4 (by decide) (by decide), h7 5 (by decide) (by decide), h7 6 (by decide) (by decide), h7 7 (by decide) (by decide), h7 8 (by decide) (by decide), h7 9 (by decide) (by decide), h7 10 (by decide) (by decide), h7 11 (by decide) (by decide), h7 12 (by decide) (by decide), h6⟩
def hOk (r : R) (start n : Int) : Bool := okP r.hour (toldH r) (start % 86400 / 3600) n
def mOk (r : R) (start n : Int) : Bool := okP r.min (toldM r) (start / 60 % 60) n
def sOk (r : R) (start n : Int) : Bool := okP r.sec (toldS r) (start % 60) n
end Go.Proofs.YtkbohijlhhpfbaaDoor.Tm

/- What the document's answer gives for a day: the walks through errandref24's Passes, Of and Count (printed by gen_rof.py). -/
namespace Go.Proofs.YtkbohijlhhpfbaaDoor.Tm
open Go.RowKit Ru Ut Cw Ra
theorem upI_succ (k : Nat) : upI (k + 1) = upI k ++ [(k : Int)] := by unfold upI; rw [List.range_succ]; simp
def hF (r : R) (start : Int) (k : Nat) : List Int := (upI k).filter (hOk r start)
def mF (r : R) (start : Int) (k : Nat) : List Int := (upI k).filter (mOk r start)
def sF (r : R) (start : Int) (k : Nat) : List Int := (upI k).filter (sOk r start)
theorem filt_yes {p : Int → Bool} {k : Nat} (h : p k = true) : (upI (k + 1)).filter p = (upI k).filter p ++ [(k : Int)] := by rw [upI_succ, List.filter_append]; simp [h]
theorem filt_no {p : Int → Bool} {k : Nat} (h : p k = false) : (upI (k + 1)).filter p = (upI k).filter p := by rw [upI_succ, List.filter_append]; simp [h]
theorem filt_le (p : Int → Bool) (k : Nat) : ((upI k).filter p).length ≤ k := Nat.le_trans (List.length_filter_le _ _) (by rw [upI_length]; exact Nat.le_refl _)
/-- the seconds of the hours ahead of k -/
def RH (r : R) (start a b : Int) (k : Nat) : List Int := (hF r start k).flatMap fun h => minOut a b h (mF r start 60) (sF r start 60)
/-- .. and those of the minutes ahead of m, of hour k -/
def RM (r : R) (start a b : Int) (k m : Nat) : List Int := RH r start a b k ++ minOut a b k (mF r start m) (sF r start 60)
/-- .. and those of the seconds ahead of s -/
def RS (r : R) (start a b : Int) (k m s : Nat) : List Int := RM r start a b k m ++ secOut a b k m (sF r start s)
theorem RM_zero (r : R) (start a b : Int) (k : Nat) : RM r start a b k 0 = RH r start a b k := by unfold RM mF upI minOut; simp
theorem RS_zero (r : R) (start a b : Int) (k m : Nat) : RS r start a b k m 0 = RM r start a b k m := by unfold RS sF upI secOut; simp
theorem RH_no {r : R} {start a b : Int} {k : Nat} (h : hOk r start k = false) : RH r start a b (k + 1) = RH r start a b k := by unfold RH hF; rw [filt_no h]
theorem RH_yes {r : R} {start a b : Int} {k : Nat} (h : hOk r start k = true) : RH r start a b (k + 1) = RM r start a b k 60 := by unfold RM RH hF; rw [filt_yes h]; simp
theorem RM_no {r : R} {start a b : Int} {k m : Nat} (h : mOk r start m = false) : RM r start a b k (m + 1) = RM r start a b k m := by unfold RM mF; rw [filt_no h]
theorem RM_yes {r : R} {start a b : Int} {k m : Nat} (h : mOk r start m = true) : RM r start a b k (m + 1) = RS r start a b k m 60 := by unfold RS RM mF; rw [filt_yes h, min_snoc, List.append_assoc]
theorem RS_no {r : R} {start a b : Int} {k m s : Nat} (h : sOk r start s = false) : RS r start a b k m (s + 1) = RS r start a b k m s := by unfold RS sF; rw [filt_no h]
theorem RS_out {r : R} {start a b : Int} {k m s : Nat} (h : sOk r start s = true) (h1 : ¬ (a ≤ (k : Int) * 3600 + m * 60 + s ∧ (k : Int) * 3600 + m * 60 + s < b)) : RS r start a b k m (s + 1) = RS r start a b k m s := by unfold RS sF; rw [filt_yes h, sec_out h1]
theorem RS_in {r : R} {start a b : Int} {k m s : Nat} (h : sOk r start s = true) (h1 : a ≤ (k : Int) * 3600 + m * 60 + s) (h2 : (k : Int) * 3600 + m * 60 + s < b) : RS r start a b k m (s + 1) = RS r start a b k m s ++ [(k : Int) * 3600 + m * 60 + s] := by unfold RS sF; rw [filt_yes h, sec_in h1 h2, List.append_assoc]
theorem RH_le (r : R) (start a b : Int) {k : Nat} (hk : k ≤ 24) : (RH r start a b k).length ≤ 86400 := by
  refine Nat.le_trans (flat_le _ 3600 (fun h => Nat.le_trans (min_le ..) ?_) _) ?_
  · have h1 := filt_le (mOk r start) 60
    have h2 := filt_le (sOk r start) 60
    exact Nat.le_trans (Nat.mul_le_mul h1 h2) (by decide)
  · have := filt_le (hOk r start) k
    have := Nat.mul_le_mul_right 3600 (Nat.le_trans this hk)
    unfold hF
    omega
theorem RS_le (r : R) (start a b : Int) {k m s : Nat} (hk : k ≤ 24) (hm : m ≤ 60) (hs : s ≤ 60) : (RS r start a b k m s).length ≤ 1000000 := by
  unfold RS RM
  rw [List.length_append, List.length_append]
  have h1 := RH_le r start a b hk
  have h2 := min_le a b k (mF r start m) (sF r start 60)
  have h3 := sec_le a b k m (sF r start s)
  have h4 := filt_le (mOk r start) m
  have h5 := filt_le (sOk r start) 60
  have h6 := filt_le (sOk r start) s
  have h7 := Nat.mul_le_mul (Nat.le_trans h4 hm) h5
  unfold mF sF at *
  omega
def rsecs (r : R) (start a b : Int) : List Int := if mayT r start = true ∧ 0 ≤ a ∧ a ≤ b ∧ b ≤ 86400 then RH r start a b 24 else []
theorem rgivesT {w W : World} {B : Nat} {v : Value} {l m : List Int} (h : OwnI W B v m) (hl : m = l) (hb : w.heap.size ≤ B) (hB : Below w.heap.size w W) : Gives w l (.returned v) W := by subst hl; exact ⟨_, rfl, h.base hb, hB⟩
end Go.Proofs.YtkbohijlhhpfbaaDoor.Tm


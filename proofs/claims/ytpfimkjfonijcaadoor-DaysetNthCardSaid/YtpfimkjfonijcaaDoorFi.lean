/- The n-th of a weekday of a month, in plain lists and integers. -/
import Derived.Test.YtpfimkjfonijcaaDoorFd
namespace Go.Proofs.YtpfimkjfonijcaaDoor.Da
open Ru
def rD (x w : Int) : R := ⟨5, 1, 0, 0, 0, [], [], [], [(x, w)], [], [], [], [], [], 0⟩
theorem chk_rD {x w : Int} (h : (1 ≤ x ∧ x ≤ 5) ∨ (-5 ≤ x ∧ x ≤ -1)) (w0 : 0 ≤ w) (w6 : w ≤ 6) : chkR (rD x w) = 0 := by
  have hb : badDay (x, w) = false := by
    unfold badDay
    simp only [Bool.or_eq_false_iff, decide_eq_false_iff_not]
    omega
  simp [chkR, head, errs, err, firstNZ, wrong, fits, rD, lst, lo, hi, sg, hb]
theorem lets_rD (x w : Int) (s f : Dy.F) : Dy.lets (rD x w) s f = Dy.hit f (f.n0, f.n1) (x, w) := by
  simp [Dy.lets, Dy.has, Dy.onDay, Dy.likeStart, Dy.ways, rD]
/-- what is picked of a stretch -/
def pick (p : Int → Bool) (a : Int) : Nat → List Int
  | 0 => []
  | k + 1 => pick p a k ++ (if p (a + (k : Int)) = true then [a + (k : Int)] else [])
theorem pick_le (p : Int → Bool) (a : Int) : ∀ k, (pick p a k).length ≤ k
  | 0 => by simp [pick]
  | k + 1 => by
    have := pick_le p a k
    rw [pick, List.length_append]; split <;> simp <;> omega
theorem days_pick (r : R) (start a : Int) : ∀ k, Dy.days r start a k = pick (fun n => Dy.lets r (Dy.about (start / 86400)) (Dy.about n)) a k
  | 0 => rfl
  | k + 1 => by rw [Dy.days_snoc, days_pick r start a k, pick]
theorem pick_off (p q : Int → Bool) (a : Int) : ∀ k : Nat, (∀ j : Nat, j < k → p (a + (j : Int)) = q (j : Int)) → pick p a k = (pick q 0 k).map (fun j => a + j)
  | 0, _ => rfl
  | k + 1, h => by
    have ih := pick_off p q a k (fun j hj => h j (by omega))
    have hk := h k (by omega)
    rw [pick, pick, ih, List.map_append, hk, show (0 : Int) + (k : Int) = (k : Int) by omega]
    congr 1
    split <;> simp
def offW (f : Int) (j : Int) : Bool := decide (j % 7 = f)
def offF (f k : Int) (j : Int) : Bool := decide (j % 7 = f) && decide (j / 7 + 1 = k)
def offB (f k sz : Int) (j : Int) : Bool := decide (j % 7 = f) && decide ((sz - 1 - j) / 7 + 1 = k)
/-- what the law says of the days picked -/
def good (f k sz : Nat) : Bool :=
  let A := pick (offW f) 0 sz
  let F := pick (offF f k) 0 sz
  let B := pick (offB f k sz) 0 sz
  if A.length < k then F == [] && B == [] else
    F == [A.getD (k - 1) 0] && B == [A.getD (A.length - k) 0]
def goods : Bool := (List.range 7).all fun f => (List.range 6).all fun k => (List.range 32).all fun s => decide (k = 0) || decide (s < 28) || good f k s
theorem all_good : goods = true := by decide +kernel
theorem good_of {f k sz : Nat} (hf : f < 7) (hk0 : 0 < k) (hk : k < 6) (hs0 : 28 ≤ sz) (hs : sz < 32) : good f k sz = true := by
  have h := all_good
  unfold goods at h
  rw [List.all_eq_true] at h
  have h1 := h f (List.mem_range.2 hf)
  rw [List.all_eq_true] at h1
  have h2 := h1 k (List.mem_range.2 hk)
  rw [List.all_eq_true] at h2
  have h3 := h2 sz (List.mem_range.2 hs)
  rw [Bool.or_eq_true, Bool.or_eq_true, decide_eq_true_iff, decide_eq_true_iff] at h3
  rcases h3 with (h3 | h3) | h3
  · omega
  · omega
  · exact h3
theorem pick_mem {p : Int → Bool} {a x : Int} : ∀ {k : Nat}, x ∈ pick p a k → a ≤ x ∧ x < a + k
  | 0, h => by simp [pick] at h
  | k + 1, h => by
    rw [pick, List.mem_append] at h
    rcases h with h | h
    · have := pick_mem h; omega
    · split at h
      · rw [List.mem_singleton] at h; omega
      · simp at h
theorem month_day {y m j : Int} (y1 : 1 ≤ y) (y2 : y ≤ 9999) (m1 : 1 ≤ m) (m2 : m ≤ 12) (j0 : 0 ≤ j) (j1 : j < Civ.len y m) :
    let a := Civ.ahead y + Civ.til y m
    0 ≤ a + j ∧ a + j ≤ 3652058 ∧ Civ.weekday (a + j) = (a + j) % 7 ∧ (Dy.about (a + j)).weekday = (a + j) % 7 ∧ (Dy.about (a + j)).n0 = j / 7 + 1 ∧ (Dy.about (a + j)).n1 = -((Civ.len y m - 1 - j) / 7 + 1) := by
  intro a
  have hd := Civ.date_of (d := j + 1) y1 y2 m1 m2 (by omega) (by omega)
  have e : Civ.ahead y + Civ.til y m + (j + 1) - 1 = a + j := by omega
  rw [e] at hd
  obtain ⟨u1, u2, u3⟩ := Civ.date_unique (n := a + j) (d := j + 1) y1 y2 m1 m2 (by omega) (by omega) (by omega)
  have hw := Civ.weekday_of hd.1 hd.2.1
  refine ⟨hd.1, hd.2.1, hw, ?_⟩
  unfold Dy.about Dy.which
  rw [if_pos ((Civ.isDay_iff _).2 ⟨hd.1, hd.2.1⟩)]
  simp only [u1, u2, u3, hw]
  refine ⟨trivial, ?_, ?_⟩
  · rw [show j + 1 - 1 = j by omega]
  · rw [show Civ.len y m - (j + 1) = Civ.len y m - 1 - j by omega]
theorem weekday_off {a j w : Int} (w0 : 0 ≤ w) (w6 : w ≤ 6) : (a + j) % 7 = w ↔ j % 7 = (((w - a) % 7).toNat : Int) := by omega
theorem lets_F {y m j w k : Int} (s : Dy.F) (y1 : 1 ≤ y) (y2 : y ≤ 9999) (m1 : 1 ≤ m) (m2 : m ≤ 12) (j0 : 0 ≤ j) (j1 : j < Civ.len y m) (w0 : 0 ≤ w) (w6 : w ≤ 6) (k0 : 1 ≤ k) :
    Dy.lets (rD k w) s (Dy.about (Civ.ahead y + Civ.til y m + j)) = offF (((w - (Civ.ahead y + Civ.til y m)) % 7).toNat : Int) k j := by
  obtain ⟨_, _, _, h1, h2, h3⟩ := month_day y1 y2 m1 m2 j0 j1
  have ho := weekday_off (a := Civ.ahead y + Civ.til y m) (j := j) w0 w6
  rw [lets_rD, Dy.hit]
  simp only [h1, h2, h3, offF]
  rw [Bool.eq_iff_iff]
  simp only [Bool.or_eq_true, Bool.and_eq_true, decide_eq_true_iff]
  omega
theorem lets_B {y m j w k : Int} (s : Dy.F) (y1 : 1 ≤ y) (y2 : y ≤ 9999) (m1 : 1 ≤ m) (m2 : m ≤ 12) (j0 : 0 ≤ j) (j1 : j < Civ.len y m) (w0 : 0 ≤ w) (w6 : w ≤ 6) (k0 : 1 ≤ k) :
    Dy.lets (rD (-k) w) s (Dy.about (Civ.ahead y + Civ.til y m + j)) = offB (((w - (Civ.ahead y + Civ.til y m)) % 7).toNat : Int) k (Civ.len y m) j := by
  obtain ⟨_, _, _, h1, h2, h3⟩ := month_day y1 y2 m1 m2 j0 j1
  have ho := weekday_off (a := Civ.ahead y + Civ.til y m) (j := j) w0 w6
  rw [lets_rD, Dy.hit]
  simp only [h1, h2, h3, offB]
  rw [Bool.eq_iff_iff]
  simp only [Bool.or_eq_true, Bool.and_eq_true, decide_eq_true_iff]
  omega
theorem map_getD {l : List Int} {a : Int} {i : Nat} (h : i < l.length) : (l.map (fun j => a + j))[i]? = some (a + l.getD i 0) ∧ l.getD i 0 ∈ l := by
  rw [List.getElem?_map, List.getElem?_eq_getElem h, List.getD_eq_getElem?_getD, List.getElem?_eq_getElem h]
  exact ⟨rfl, List.getElem_mem h⟩
/-- the days of a weekday in a stretch -/
def wks (w a : Int) (k : Nat) : List Int := pick (fun n => decide (Civ.weekday n = w)) a k
theorem nth_law {y m k w : Int} (y1 : 1 ≤ y) (y2 : y ≤ 9999) (m1 : 1 ≤ m) (m2 : m ≤ 12) (w0 : 0 ≤ w) (w6 : w ≤ 6) (k0 : 1 ≤ k) (k5 : k ≤ 5) :
    let a := Civ.ahead y + Civ.til y m
    let A := wks w a (Civ.len y m).toNat
    (A.length < k.toNat → Dy.daysOf (rD k w) 0 a (a + Civ.len y m) = [] ∧ Dy.daysOf (rD (-k) w) 0 a (a + Civ.len y m) = []) ∧
    (k.toNat ≤ A.length → ∃ x z, Dy.daysOf (rD k w) 0 a (a + Civ.len y m) = [x] ∧ A[k.toNat - 1]? = some x ∧ (Dy.about x).n0 = (x - a) / 7 + 1 ∧ a ≤ x ∧ x < a + Civ.len y m ∧
      Dy.daysOf (rD (-k) w) 0 a (a + Civ.len y m) = [z] ∧ A[A.length - k.toNat]? = some z ∧ (Dy.about z).n0 = (z - a) / 7 + 1 ∧ a ≤ z ∧ z < a + Civ.len y m) := by
  intro a A
  have hl := Civ.len_bd y m
  have hg := Civ.len_ge y1 y2 m1 m2
  have M := fun j h0 h1 => month_day (y := y) (m := m) (j := j) y1 y2 m1 m2 h0 h1
  have hM0 := M 0 (by omega) (by omega)
  have hM1 := M (Civ.len y m - 1) (by omega) (by omega)
  obtain ⟨f, hf⟩ : ∃ f : Nat, ((w - a) % 7).toNat = f := ⟨_, rfl⟩
  have hf7 : f < 7 := by omega
  obtain ⟨sz, hsz⟩ : ∃ sz : Nat, (Civ.len y m).toNat = sz := ⟨_, rfl⟩
  have hszI : Civ.len y m = (sz : Int) := by omega
  obtain ⟨kn, hkn⟩ : ∃ kn : Nat, k.toNat = kn := ⟨_, rfl⟩
  have hkI : k = (kn : Int) := by omega
  have hG := good_of (f := f) (k := kn) (sz := sz) hf7 (by omega) (by omega) (by omega) (by omega)
  have hA : A = (pick (offW f) 0 sz).map (fun j => a + j) := by
    show pick _ a _ = _
    rw [hsz]
    refine pick_off _ _ a sz fun j hj => ?_
    have h1 := (M j (by omega) (by omega)).2.2.1
    have h2 := weekday_off (a := a) (j := j) w0 w6
    rw [hf] at h2
    show decide _ = decide _
    rw [h1]
    exact decide_eq_decide.2 h2
  have day0 : Civ.isDay (0 / 86400) = true := by decide
  have DO : ∀ x : Int, chkR (rD x w) = 0 → Dy.daysOf (rD x w) 0 a (a + Civ.len y m) = pick (fun n => Dy.lets (rD x w) (Dy.about (0 / 86400)) (Dy.about n)) a sz := fun x hc => by
    rw [Dy.daysOf, if_neg (by rw [hc, day0]; simp only [ne_eq, not_true_eq_false, reduceCtorEq, or_false]; omega), days_pick, show (a + Civ.len y m - a).toNat = sz by omega]
  have hF : Dy.daysOf (rD k w) 0 a (a + Civ.len y m) = (pick (offF f kn) 0 sz).map (fun j => a + j) := by
    rw [DO k (chk_rD (.inl ⟨k0, k5⟩) w0 w6)]
    refine pick_off _ _ a sz fun j hj => ?_
    have h := lets_F (j := j) (Dy.about (0 / 86400)) y1 y2 m1 m2 (by omega) (by omega) w0 w6 k0
    rw [show ((w - (Civ.ahead y + Civ.til y m)) % 7).toNat = f from hf] at h
    rw [← hkI]
    exact h
  have hB : Dy.daysOf (rD (-k) w) 0 a (a + Civ.len y m) = (pick (offB f kn sz) 0 sz).map (fun j => a + j) := by
    rw [DO (-k) (chk_rD (.inr ⟨by omega, by omega⟩) w0 w6)]
    refine pick_off _ _ a sz fun j hj => ?_
    have h := lets_B (j := j) (Dy.about (0 / 86400)) y1 y2 m1 m2 (by omega) (by omega) w0 w6 k0
    rw [show ((w - (Civ.ahead y + Civ.til y m)) % 7).toNat = f from hf] at h
    rw [← hkI, ← hszI]
    exact h
  have hlenA : A.length = (pick (offW f) 0 sz).length := by rw [hA, List.length_map]
  unfold good at hG
  simp only [] at hG
  constructor
  · intro hlt
    rw [hkn, hlenA] at hlt
    rw [if_pos hlt, Bool.and_eq_true, beq_iff_eq, beq_iff_eq] at hG
    rw [hF, hB, hG.1, hG.2]
    exact ⟨rfl, rfl⟩
  · intro hle
    rw [hkn, hlenA] at hle
    rw [if_neg (by omega), Bool.and_eq_true, beq_iff_eq, beq_iff_eq] at hG
    obtain ⟨p1, q1⟩ := map_getD (l := pick (offW f) 0 sz) (a := a) (i := kn - 1) (by omega)
    obtain ⟨p2, q2⟩ := map_getD (l := pick (offW f) 0 sz) (a := a) (i := (pick (offW f) 0 sz).length - kn) (by omega)
    have b1 := pick_mem q1
    have b2 := pick_mem q2
    have hF' : Dy.daysOf (rD k w) 0 a (a + Civ.len y m) = [a + (pick (offW f) 0 sz).getD (kn - 1) 0] := by rw [hF, hG.1]; rfl
    have hB' : Dy.daysOf (rD (-k) w) 0 a (a + Civ.len y m) = [a + (pick (offW f) 0 sz).getD ((pick (offW f) 0 sz).length - kn) 0] := by rw [hB, hG.2]; rfl
    rw [hF', hB', hkn, hlenA, hA, p1, p2]
    refine ⟨_, _, rfl, rfl, ?_, by omega, by omega, rfl, rfl, ?_, by omega, by omega⟩
    · rw [(M _ (by omega) (by omega)).2.2.2.2.1]; congr 1; omega
    · rw [(M _ (by omega) (by omega)).2.2.2.2.1]; congr 1; omega
end Go.Proofs.YtpfimkjfonijcaaDoor.Da

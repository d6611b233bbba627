import Derived.Test.YtkbohijlhhpfbaaGreatDoorVYd
import Derived.Test.YtkbohijlhhpfbaaGreatDoorVYi
import Derived.Lib.SliceRun
import Derived.Laws.OwnMore
import Derived.Deep.AppendLies
import Derived.Test.YtkbohijlhhpfbaaGreatDoorVTn
import Derived.Deep.RegionHeld3
/- The members of a window, by either side: plain lists. -/
namespace Go.Proofs.YtkbohijlhhpfbaaGreatDoor.Rs
open Ru Xp
theorem lim_sublist (left : Int) (l : List Int) : (lim left l).Sublist l := by
 unfold lim
 split
 ·exact List.Sublist.refl _
 ·exact List.take_sublist _ _
theorem rul_rise {p : P} (hF : Fine p) : (rul p).Pairwise (· < ·) :=
 ((cs_rise hF _ _ (.inr (first_in hF))).filter _).sublist (lim_sublist _ _)
theorem upTo_all {p : P} (h : p.once = false) (l : List Int) : upTo p l = l := by
 refine upTo_none ?_
 rw [List.any_eq_false]
 intro x _
 unfold ends; rw [h]; simp
theorem met_all {p : P} (h : p.once = false) (l : List Int) : met p l = l.filter (hit p) := by unfold met; rw [upTo_all h]
theorem upTo_prefix (p : P) : ∀ l : List Int, (upTo p l).Sublist l
 | [] => List.Sublist.refl _
 | t :: l => by
  unfold upTo
  split
  ·exact List.Sublist.cons_cons _ (List.nil_sublist _)
  ·exact (upTo_prefix p l).cons_cons t
theorem met_rise {p : P} {l : List Int} (h : l.Pairwise (· < ·)) : (met p l).Pairwise (· < ·) := (h.sublist (upTo_prefix p l)).filter _
def insR (l : List Int) (t : Int) : List Int := if t ∈ l then l else l.takeWhile (fun x => decide (x ≤ t)) ++ t :: l.dropWhile (fun x => decide (x ≤ t))
theorem insR_mem {l : List Int} {t x : Int} : x ∈ insR l t ↔ x ∈ l ∨ x = t := by
 unfold insR
 split
 ·rename_i h
  constructor
  ·exact .inl
  ·rintro (h1 | rfl)
   ·exact h1
   ·exact h
 ·have h := List.takeWhile_append_dropWhile (p := fun x => decide (x ≤ t)) (l := l)
  rw [List.mem_append, List.mem_cons]
  constructor
  ·rintro (h1 | rfl | h1)
   ·exact .inl (by rw [← h]; exact List.mem_append_left _ h1)
   ·exact .inr rfl
   ·exact .inl (by rw [← h]; exact List.mem_append_right _ h1)
  ·rintro (h1 | rfl)
   ·rw [← h, List.mem_append] at h1
    rcases h1 with h1 | h1
    ·exact .inl h1
    ·exact .inr (.inr h1)
   ·exact .inr (.inl rfl)
theorem insR_rise {l : List Int} {t : Int} (h : l.Pairwise (· < ·)) : (insR l t).Pairwise (· < ·) := by
 unfold insR
 split
 ·exact h
 ·rename_i hn
  have he := List.takeWhile_append_dropWhile (p := fun x => decide (x ≤ t)) (l := l)
  have h2 : (l.takeWhile (fun x => decide (x ≤ t)) ++ l.dropWhile (fun x => decide (x ≤ t))).Pairwise (· < ·) := by rw [he]; exact h
  rw [List.pairwise_append] at h2 ⊢
  have hlo : ∀ x ∈ l.takeWhile (fun x => decide (x ≤ t)), x < t := fun x hx => by
   have h3 : x ≤ t := by
    have := List.all_takeWhile (p := fun x => decide (x ≤ t)) (l := l)
    have := List.all_eq_true.1 this x hx
    simpa using this
   have h4 : x ∈ l := by rw [← he]; exact List.mem_append_left _ hx
   have : x ≠ t := fun e => hn (e ▸ h4)
   omega
  have hhi : ∀ x ∈ l.dropWhile (fun x => decide (x ≤ t)), t < x := by
   intro x hx
   cases hd : l.dropWhile (fun x => decide (x ≤ t)) with
   | nil => rw [hd] at hx; cases hx
   | cons y ys =>
    have hy : ¬ y ≤ t := by
     have := List.head?_dropWhile_not (p := fun x => decide (x ≤ t)) (l := l)
     rw [hd] at this
     simpa using this
    rw [hd] at hx h2
    rcases List.mem_cons.1 hx with rfl | hx
    ·omega
    ·have := (List.pairwise_cons.1 h2.2.1).1 x hx
     omega
  refine ⟨h2.1, List.pairwise_cons.2 ⟨hhi, h2.2.1⟩, fun a ha b hb => ?_⟩
  rcases List.mem_cons.1 hb with rfl | hb
  ·exact hlo a ha
  ·exact h2.2.2 a ha b hb
theorem fold_mem : ∀ (ts l : List Int) {x : Int}, x ∈ ts.foldl insR l ↔ x ∈ l ∨ x ∈ ts
 | [], l, x => by simp
 | t :: ts, l, x => by
  rw [List.foldl_cons, fold_mem ts, insR_mem, List.mem_cons, or_assoc]
theorem fold_rise : ∀ (ts l : List Int), l.Pairwise (· < ·) → (ts.foldl insR l).Pairwise (· < ·)
 | [], _, h => h
 | _ :: ts, _, h => fold_rise ts _ (insR_rise h)
def within (a b : Int) (l : List Int) : List Int := l.filter fun t => decide (a ≤ t) && decide (t < b)
def winR (m ins outs : List Int) (a b : Int) : List Int := ((within a b ins).foldl insR m).filter fun t => !decide (t ∈ outs)
theorem winR_mem {m ins outs : List Int} {a b x : Int} : x ∈ winR m ins outs a b ↔ (x ∈ m ∨ (x ∈ ins ∧ a ≤ x ∧ x < b)) ∧ x ∉ outs := by
 unfold winR within
 rw [List.mem_filter, fold_mem, List.mem_filter]
 simp
theorem winR_rise {m ins outs : List Int} {a b : Int} (h : m.Pairwise (· < ·)) : (winR m ins outs a b).Pairwise (· < ·) := (fold_rise _ _ h).filter _
theorem win_eq {m ins outs l : List Int} {a b : Int} (h : m.Pairwise (· < ·)) (hl : l.Pairwise (· < ·)) (hm : ∀ x, x ∈ l ↔ (x ∈ m ∨ (x ∈ ins ∧ a ≤ x ∧ x < b)) ∧ x ∉ outs) : l = winR m ins outs a b :=
 Tm.rise_ext hl (winR_rise h) fun x => by rw [hm, winR_mem]
theorem take_mem {L : List Int} (h : L.Pairwise (· < ·)) (c : Nat) (t : Int) : t ∈ L.take c ↔ t ∈ L ∧ (L.filter fun x => decide (x ≤ t)).length ≤ c := by
 induction L generalizing c with
 | nil => simp
 | cons y L ih =>
  rw [List.pairwise_cons] at h
  cases c with
  | zero =>
   rw [List.take_zero]
   constructor
   ·intro hh; cases hh
   ·rintro ⟨h1, h2⟩
    have h3 : t ∈ (y :: L).filter fun x => decide (x ≤ t) := List.mem_filter.2 ⟨h1, by simp⟩
    have := List.length_pos_of_mem h3
    omega
  | succ c =>
   rw [List.take_succ_cons, List.mem_cons, List.mem_cons, ih h.2]
   by_cases hy : y ≤ t
   ·rw [List.filter_cons_of_pos (by simpa using hy), List.length_cons]
    constructor
    ·rintro (rfl | ⟨h1, h2⟩)
     ·refine ⟨.inl rfl, ?_⟩
      have : L.filter (fun x => decide (x ≤ t)) = [] := by
       rw [List.filter_eq_nil_iff]
       intro x hx
       have := h.1 x hx
       simp; omega
      rw [this]; simp
     ·exact ⟨.inr h1, by omega⟩
    ·rintro ⟨rfl | h1, h2⟩
     ·exact .inl rfl
     ·exact .inr ⟨h1, by omega⟩
   ·have hn : t ∉ L := fun hh => by have := h.1 t hh; omega
    constructor
    ·rintro (rfl | ⟨h1, _⟩)
     ·exact absurd (Int.le_refl _) hy
     ·exact absurd h1 hn
    ·rintro ⟨rfl | h1, _⟩
     ·exact absurd (Int.le_refl _) hy
     ·exact absurd h1 hn
end Go.Proofs.YtkbohijlhhpfbaaGreatDoor.Rs
/- Which seconds are a rule's instants: by period, by pick, and by rank: plain lists. -/
namespace Go.Proofs.YtkbohijlhhpfbaaGreatDoor.Rs
open Ru Xp
theorem cs_mem {p : P} (hF : Fine p) : ∀ (n : Nat) (i x : Int), (lastP p < i ∨ Inp p i) → (lastP p - i).toNat < n ∨ lastP p < i →
  (x ∈ cs p (lastP p) n i ↔ ∃ j : Nat, Inp p (i + j * p.r.interval) ∧ i + j * p.r.interval ≤ lastP p ∧ x ∈ ofE p.r p.start (i + j * p.r.interval))
 | 0, i, x, hi, hn => by
  have h1 := (head_ok hF.2.1).1
  constructor
  ·intro h; cases h
  ·rintro ⟨j, h2, h3, -⟩
   have : 0 ≤ (j : Int) * p.r.interval := Int.mul_nonneg (by omega) (by omega)
   omega
 | n + 1, i, x, hi, hn => by
  have h1 := (head_ok hF.2.1).1
  rw [cs]
  split
  ·rename_i hl
   constructor
   ·intro h; cases h
   ·rintro ⟨j, h2, h3, -⟩
    have : 0 ≤ (j : Int) * p.r.interval := Int.mul_nonneg (by omega) (by omega)
    omega
  ·rename_i hl
   have hi2 : Inp p i := hi.resolve_left hl
   rw [List.mem_append, cs_mem hF n _ x (next_or hF hi2) (by omega)]
   constructor
   ·rintro (h | ⟨j, h2, h3, h4⟩)
    ·exact ⟨0, by simpa using hi2, by simpa using Int.not_lt.1 hl, by simpa using h⟩
    ·have e : i + ((j + 1 : Nat) : Int) * p.r.interval = i + p.r.interval + (j : Int) * p.r.interval := by
      rw [Int.natCast_add, Int.add_mul]; omega
     exact ⟨j + 1, by rw [e]; exact h2, by rw [e]; exact h3, by rw [e]; exact h4⟩
   ·rintro ⟨j, h2, h3, h4⟩
    cases j with
    | zero => exact .inl (by simpa using h4)
    | succ j =>
     have e : i + ((j + 1 : Nat) : Int) * p.r.interval = i + p.r.interval + (j : Int) * p.r.interval := by
      rw [Int.natCast_add, Int.add_mul]; omega
     rw [e] at h2 h3 h4
     exact .inr ⟨j, h2, h3, h4⟩
def all (p : P) : List Int := cs p (lastP p) (fuel p (first p)) (first p)
theorem all_rise {p : P} (hF : Fine p) : (all p).Pairwise (· < ·) := cs_rise hF _ _ (.inr (first_in hF))
theorem all_mem {p : P} (hF : Fine p) {x : Int} (x0 : p.start ≤ x) (x1 : x ≤ 315537897599) :
  x ∈ all p ↔ (Pd.index p.r.freq p.r.wkst x - first p) % p.r.interval = 0 ∧ x ∈ ofE p.r p.start (Pd.index p.r.freq p.r.wkst x) := by
 have h1 := (head_ok hF.2.1).1
 have hk := counts_ok hF.1 hF.2.1
 have s0 := hF.2.2.1
 have hI : Inp p (Pd.index p.r.freq p.r.wkst x) := index_in hF.1 hk (by omega) x1
 have hmono : first p ≤ Pd.index p.r.freq p.r.wkst x := index_mono hF.1 hk hF.2.2.1 x0 x1
 unfold all
 rw [cs_mem hF _ _ x (.inr (first_in hF)) (.inl (by unfold fuel; omega))]
 constructor
 ·rintro ⟨j, h2, h3, h4⟩
  have hs := ofE_in hF h2 h4
  have he : Pd.index p.r.freq p.r.wkst x = first p + j * p.r.interval := one_stretch hF.1 hk h2 hs.1 hs.2
  rw [he]
  exact ⟨by rw [show first p + (j : Int) * p.r.interval - first p = (j : Int) * p.r.interval by omega]; exact Int.mul_emod_left _ _, h4⟩
 ·rintro ⟨h2, h3⟩
  have hd := Int.emod_add_mul_ediv (Pd.index p.r.freq p.r.wkst x - first p) p.r.interval
  rw [h2] at hd
  have hq : 0 ≤ (Pd.index p.r.freq p.r.wkst x - first p) / p.r.interval := Int.ediv_nonneg (by omega) (by omega)
  have e : first p + (((Pd.index p.r.freq p.r.wkst x - first p) / p.r.interval).toNat : Int) * p.r.interval = Pd.index p.r.freq p.r.wkst x := by
   rw [Int.toNat_of_nonneg hq, Int.mul_comm]; omega
  exact ⟨_, by rw [e]; exact hI, by rw [e]; exact hI.2, by rw [e]; exact h3⟩
def candidate (p : P) (x : Int) : Bool := decide (p.start ≤ x) && (decide (x ≤ p.fin) && (decide ((Pd.index p.r.freq p.r.wkst x - first p) % p.r.interval = 0) && decide (x ∈ ofE p.r p.start (Pd.index p.r.freq p.r.wkst x))))
def rank (p : P) (x : Int) : Nat := ((all p).filter fun t => decide (p.start ≤ t) && decide (t ≤ x)).length
theorem rul_mem {p : P} (hF : Fine p) (x : Int) : x ∈ rul p ↔ candidate p x = true ∧ (0 < p.r.count → (rank p x : Int) ≤ p.r.count) := by
 have hr : ((all p).filter (cand p)).Pairwise (· < ·) := (all_rise hF).filter _
 have hmem : x ∈ (all p).filter (cand p) ↔ candidate p x = true := by
  rw [List.mem_filter]
  unfold cand candidate
  simp only [Bool.and_eq_true, decide_eq_true_eq]
  have hf := hF.2.2.2.2
  constructor
  ·rintro ⟨h1, h2, h3⟩
   have := (all_mem hF h2 (by omega)).1 h1
   exact ⟨h2, h3, this.1, this.2⟩
  ·rintro ⟨h2, h3, h4, h5⟩
   exact ⟨(all_mem hF h2 (by omega)).2 ⟨h4, h5⟩, h2, h3⟩
 show x ∈ lim p.r.count ((all p).filter (cand p)) ↔ _
 unfold lim
 by_cases hc : p.r.count ≤ 0
 ·rw [if_pos hc, hmem]
  exact ⟨fun h => ⟨h, fun h2 => by omega⟩, fun h => h.1⟩
 ·rw [if_neg hc, take_mem hr, hmem]
  constructor
  ·rintro ⟨h1, h2⟩
   refine ⟨h1, fun _ => ?_⟩
   have e : rank p x = (((all p).filter (cand p)).filter fun t => decide (t ≤ x)).length := by
    unfold rank
    rw [List.filter_filter]
    congr 1
    apply List.filter_congr
    intro t _
    unfold candidate at h1
    simp only [Bool.and_eq_true, decide_eq_true_eq] at h1
    unfold cand
    rw [Bool.eq_iff_iff]
    simp only [Bool.and_eq_true, decide_eq_true_eq]
    omega
   rw [e]; omega
  ·rintro ⟨h1, h2⟩
   refine ⟨h1, ?_⟩
   have e : rank p x = (((all p).filter (cand p)).filter fun t => decide (t ≤ x)).length := by
    unfold rank
    rw [List.filter_filter]
    congr 1
    apply List.filter_congr
    intro t _
    unfold candidate at h1
    simp only [Bool.and_eq_true, decide_eq_true_eq] at h1
    unfold cand
    rw [Bool.eq_iff_iff]
    simp only [Bool.and_eq_true, decide_eq_true_eq]
    omega
   rw [← e]
   have := h2 (by omega)
   omega
end Go.Proofs.YtkbohijlhhpfbaaGreatDoor.Rs
/- The parts of a window, and the next member: plain lists. -/
namespace Go.Proofs.YtkbohijlhhpfbaaGreatDoor.Rs
open Ru Xp
theorem costE_nn (r : R) (s i : Int) : 0 ≤ costE r s i := by
 unfold costE
 split
 ·have : (0 : Int) ≤ ((dys r s i).length : Int) * (tmsP r s i).length := Int.mul_nonneg (by omega) (by omega)
  omega
 ·omega
def Alike (p q : P) : Prop := p.r = q.r ∧ p.start = q.start ∧ p.fin = q.fin ∧ p.budget = q.budget ∧ p.once = false ∧ q.once = false
theorem ends_no {p : P} (h : p.once = false) (t : Int) : ends p t = false := by unfold ends; rw [h]; simp
theorem inner_alike {p q : P} (h : Alike p q) : ∀ (l : List Int) (left : Int) (m m' : List Int), (inner p l left m).1 = (inner q l left m').1 ∧ (inner p l left m).2.1 = (inner q l left m').2.1
 | [], _, _, _ => ⟨rfl, rfl⟩
 | t :: l, left, m, m' => by
  have hA := h
  obtain ⟨-, h2, h3, -, h5, h6⟩ := h
  rw [inner, inner, h2, h3, ends_no h5, ends_no h6]
  split
  ·exact inner_alike hA l left m m'
  ·split
   ·exact ⟨rfl, rfl⟩
   ·split
    ·exact ⟨rfl, rfl⟩
    ·exact inner_alike hA l _ _ _
theorem run_less {p q : P} (h : Alike p q) (hb : q.b ≤ p.b) (last : Int) : ∀ (n : Nat) (i left used : Int) (m m' : List Int) (u : Int) (l : List Int), run p last n i left used m = some (u, l) →
  ∃ u' l', run q last n i left used m' = some (u', l') ∧ u' ≤ u ∧ used ≤ u'
 | 0, i, left, used, m, m', u, l, hr => by
  rw [run] at hr
  cases hr
  exact ⟨_, _, by rw [run], Int.le_refl _, Int.le_refl _⟩
 | n + 1, i, left, used, m, m', u, l, hr => by
  have hA := h
  obtain ⟨h1, h2, h3, h4, h5, h6⟩ := h
  rw [run] at hr
  rw [run, ← h1, ← h2, ← h3, ← h4]
  by_cases hl : last < i
  ·rw [if_pos hl] at hr ⊢
   cases hr
   exact ⟨_, _, rfl, Int.le_refl _, Int.le_refl _⟩
  ·rw [if_neg hl] at hr ⊢
   have hc := costE_nn p.r p.start i
   by_cases hq : q.b ≤ fr p.r i ∨ p.fin < fr p.r i
   ·rw [if_pos hq]
    refine ⟨_, _, rfl, ?_, Int.le_refl _⟩
    by_cases hp : p.b ≤ fr p.r i ∨ p.fin < fr p.r i
    ·rw [if_pos hp] at hr
     cases hr
     exact Int.le_refl _
    ·rw [if_neg hp] at hr
     by_cases hs : p.budget < used + costE p.r p.start i
     ·rw [if_pos hs] at hr; cases hr
     ·rw [if_neg hs] at hr
      simp only at hr
      by_cases hx : (inner p (ofE p.r p.start i) left m).1 = true
      ·rw [if_pos hx] at hr
       cases hr
       omega
      ·rw [if_neg hx] at hr
       obtain ⟨u2, l2, e1, e2, e3⟩ := run_less (p := p) (q := p) ⟨rfl, rfl, rfl, rfl, h5, h5⟩ (Int.le_refl _) last n _ _ _ _ (inner p (ofE p.r p.start i) left m).2.2 _ _ hr
       rw [hr] at e1
       cases e1
       omega
   ·have hp : ¬ (p.b ≤ fr p.r i ∨ p.fin < fr p.r i) := by omega
    rw [if_neg hq]
    rw [if_neg hp] at hr
    by_cases hs : p.budget < used + costE p.r p.start i
    ·rw [if_pos hs] at hr; cases hr
    ·rw [if_neg hs] at hr ⊢
     simp only at hr ⊢
     obtain ⟨a1, a2⟩ := inner_alike hA (ofE p.r p.start i) left m m'
     rw [← a1, ← a2]
     by_cases hx : (inner p (ofE p.r p.start i) left m).1 = true
     ·rw [if_pos hx] at hr ⊢
      cases hr
      exact ⟨_, _, rfl, Int.le_refl _, by omega⟩
     ·rw [if_neg hx] at hr ⊢
      obtain ⟨u2, l2, e1, e2, e3⟩ := run_less hA hb last n _ _ _ _ (inner q (ofE p.r p.start i) left m').2.2 _ _ hr
      exact ⟨u2, l2, e1, e2, by omega⟩
theorem walk_less {p q : P} (h : Alike p q) (hb : q.b ≤ p.b) (hc : 0 < p.r.count) {u : Int} {l : List Int} (hr : walk p = some (u, l)) : ∃ u' l', walk q = some (u', l') ∧ u' ≤ u := by
 have hA := h
 obtain ⟨h1, h2, h3, h4, h5, h6⟩ := h
 have e1 : begin q = begin p := by unfold begin first; rw [← h1, ← h2, if_pos hc, if_pos hc]
 have e0 : begin p = some (first p) := by unfold begin; rw [if_pos hc]
 unfold walk at hr ⊢
 rw [e1, e0]
 rw [e0] at hr
 simp only at hr ⊢
 have e2 : lastP q = lastP p := by unfold lastP; rw [h1]
 have e3 : fuel q (first p) = fuel p (first p) := by unfold fuel; rw [e2]
 rw [e2, e3, ← h1]
 obtain ⟨u', l', g1, g2, -⟩ := run_less hA hb (lastP p) _ _ _ _ _ [] _ _ hr
 exact ⟨u', l', g1, g2⟩
theorem rul_alike {p q : P} (h1 : p.r = q.r) (h2 : p.start = q.start) (h3 : p.fin = q.fin) : rul p = rul q := by
 obtain ⟨r, st, a, b, f, bu, o, ou⟩ := p
 obtain ⟨r', st', a', b', f', bu', o', ou'⟩ := q
 simp only at h1 h2 h3
 subst h1; subst h2; subst h3
 have hc : ∀ (last : Int) (n : Nat) (i : Int), cs ⟨r, st, a, b, f, bu, o, ou⟩ last n i = cs ⟨r, st, a', b', f, bu', o', ou'⟩ last n i := by
  intro last n
  induction n with
  | zero => intro i; rfl
  | succ n ih => intro i; rw [cs, cs]; simp only; rw [ih]
 unfold rul
 show lim r.count _ = lim r.count _
 congr 1
 rw [show (cand ⟨r, st, a, b, f, bu, o, ou⟩) = cand ⟨r, st, a', b', f, bu', o', ou'⟩ from rfl]
 congr 1
 exact hc _ _ _
/-! The next member. -/
def free (p : P) (l : List Int) : Option Int := (l.filter fun t => hit p t && !decide (t ∈ p.outs)).head?
theorem free_first {p : P} (ho : p.once = true) : ∀ l : List Int, ((met p l).filter fun t => !decide (t ∈ p.outs)).head? = free p l
 | [] => rfl
 | t :: l => by
  have ih := free_first ho l
  unfold met free at *
  unfold upTo
  have he : ends p t = (hit p t && !decide (t ∈ p.outs)) := by unfold ends; rw [ho]; simp
  by_cases h : ends p t = true
  ·rw [if_pos h]
   rw [he] at h
   have h2 := h
   rw [Bool.and_eq_true] at h2
   rw [List.filter_cons_of_pos (p := fun t => hit p t && !decide (t ∈ p.outs)) h, List.filter_cons_of_pos (p := hit p) h2.1, List.filter_nil, List.filter_cons_of_pos (p := fun t => !decide (t ∈ p.outs)) h2.2]
   rfl
  ·rw [if_neg h]
   rw [he] at h
   rw [List.filter_cons_of_neg (p := fun t => hit p t && !decide (t ∈ p.outs)) (by exact h)]
   by_cases hh : hit p t = true
   ·rw [List.filter_cons_of_pos (p := hit p) hh, List.filter_cons_of_neg]
    ·exact ih
    ·intro h3; exact h (by rw [hh]; exact h3)
   ·rw [List.filter_cons_of_neg (p := hit p) hh]
    exact ih
theorem free_last {p : P} (ho : p.once = true) : ∀ l : List Int, free p l = match (met p l).getLast? with
  | none => none
  | some t => if t ∈ p.outs then none else some t
 | [] => rfl
 | t :: l => by
  have ih := free_last ho l
  unfold met free at *
  unfold upTo
  have he : ends p t = (hit p t && !decide (t ∈ p.outs)) := by unfold ends; rw [ho]; simp
  by_cases h : ends p t = true
  ·rw [if_pos h]
   rw [he] at h
   have h2 := h
   rw [Bool.and_eq_true] at h2
   rw [List.filter_cons_of_pos (p := fun t => hit p t && !decide (t ∈ p.outs)) h, List.filter_cons_of_pos (p := hit p) h2.1, List.filter_nil]
   have : t ∉ p.outs := by simpa using h2.2
   simp [this]
  ·rw [if_neg h]
   rw [he] at h
   rw [List.filter_cons_of_neg (p := fun t => hit p t && !decide (t ∈ p.outs)) (by exact h)]
   by_cases hh : hit p t = true
   ·rw [List.filter_cons_of_pos (p := hit p) hh]
    have hin : t ∈ p.outs := by
     by_cases h4 : t ∈ p.outs
     ·exact h4
     ·exact absurd (by rw [hh]; simp [h4]) h
    rw [ih]
    cases hL : (upTo p l).filter (hit p) with
    | nil => simp [hin]
    | cons y ys => simp [List.getLast?_cons_cons]
   ·rw [List.filter_cons_of_neg (p := hit p) hh]
    exact ih
end Go.Proofs.YtkbohijlhhpfbaaGreatDoor.Rs
/- What Window, Next and Has give, as plain functions; the laws of chapter 26 in plain lists. -/
namespace Go.Proofs.YtkbohijlhhpfbaaGreatDoor.Rs
open Ru Xp
def finS (s : St) : Int := if s.rule.uk ≠ 0 then s.rule.us else 315537897599
def pS (s : St) (x y bud : Int) (once : Bool) : P := { r := s.rule, start := s.sec, a := x, b := y, fin := finS s, budget := bud, once := once, outs := secs s.out }
def badW (x y bud : Int) : Prop := x < 0 ∨ y < x ∨ 315537897600 < y ∨ bud < 0 ∨ 4000 < bud
instance (x y bud : Int) : Decidable (badW x y bud) := by unfold badW; infer_instance
def winF (s : St) (x y bud : Int) : List Int × Int × Int :=
 if chkS s ≠ 0 then ([], 0, chkS s) else if badW x y bud then ([], 0, 8)
 else match walk (pS s x y bud false) with
  | none => ([], 0, 13)
  | some (u, m) => (winR m (secs s.inn) (secs s.out) x y, u, 0)
def bestTo (outs : List Int) (after : Int) (b : Int) (l : List Int) : Int := l.foldl (fun b t => if after < t ∧ t < b ∧ t ∉ outs then t else b) b
def best (s : St) (after : Int) : Int := bestTo (secs s.out) after 315537897600 (secs s.inn)
def badN (after bud : Int) : Prop := after < -1 ∨ 315537897599 < after ∨ bud < 0 ∨ 4000 < bud
instance (after bud : Int) : Decidable (badN after bud) := by unfold badN; infer_instance
def freeS (s : St) (m : List Int) : Option Int := (m.filter fun t => !decide (t ∈ secs s.out)).head?
def endN (s : St) (after : Int) (m : List Int) : Int × Bool × Int :=
 match freeS s m with
 | some t => (t, true, 0)
 | none => if best s after ≤ 315537897599 then (best s after, true, 0) else (0, false, 0)
def nextF (s : St) (after bud : Int) : Int × Bool × Int :=
 if chkS s ≠ 0 then (0, false, chkS s) else if badN after bud then (0, false, 8)
 else match walk (pS s (after + 1) (best s after) bud true) with
  | none => (0, false, 13)
  | some (_, m) => endN s after m
def hasF (s : St) (t bud : Int) : Bool × Int :=
 if chkS s ≠ 0 then (false, chkS s) else if t < 0 ∨ 315537897599 < t then (false, 8)
 else (decide (0 < (winF s t (t + 1) bud).1.length), (winF s t (t + 1) bud).2.2)
/-! ## What a set that may be is like -/
theorem chk_sec {k t : Int} (h : Mo.chk k t = 0) : 1 ≤ k ∧ k ≤ 3 ∧ 0 ≤ t ∧ t ≤ 315537897599 := by
 have hw : Mo.why k t = 0 := by
  unfold Mo.chk at h
  by_cases hw : Mo.why k t = 0
  ·exact hw
  ·rw [if_pos hw] at h; exact absurd h hw
 unfold Mo.why at hw
 by_cases h1 : k < 1 ∨ 3 < k
 ·rw [if_pos h1] at hw; omega
 ·rw [if_neg h1] at hw
  by_cases h2 : t < 0 ∨ 315537897599 < t
  ·rw [if_pos h2] at hw; omega
  ·omega
theorem head_zero {r : R} (h : chkR r = 0) : head r = 0 := by
 unfold chkR at h
 by_cases hh : head r = 0
 ·exact hh
 ·rw [if_pos hh] at h; exact absurd h hh
theorem fin_le {s : St} (h : chkR s.rule = 0) : finS s ≤ 315537897599 := by
 unfold finS
 split
 ·rename_i hu
  have hh := head_zero h
  unfold head at hh
  by_cases h1 : 6 < s.rule.freq
  ·rw [if_pos h1] at hh; omega
  ·rw [if_neg h1] at hh
   split at hh
   ·omega
   ·rw [if_neg (fun h : s.rule.uk = 0 ∧ s.rule.us = 0 => hu h.1)] at hh
    by_cases hc : Mo.chk s.rule.uk s.rule.us ≠ 0
    ·rw [if_pos hc] at hh; exact absurd hh hc
    ·exact (chk_sec (Decidable.byContradiction hc)).2.2.2
 ·omega
theorem alike_sec {kind : Int} : ∀ {l : List (Int × Int)}, alike kind l = 0 → ∀ t ∈ secs l, 0 ≤ t ∧ t ≤ 315537897599
 | [], _, t, ht => by cases ht
 | x :: l, h, t, ht => by
  rw [alike] at h
  by_cases h1 : Mo.chk x.1 x.2 ≠ 0
  ·rw [if_pos h1] at h; exact absurd h h1
  ·rw [if_neg h1] at h
   split at h
   ·omega
   ·rcases List.mem_cons.1 ht with rfl | ht
    ·exact (chk_sec (Decidable.byContradiction h1)).2.2
    ·exact alike_sec h t ht
theorem chkS_parts {s : St} (h : chkS s = 0) : (0 ≤ s.sec ∧ s.sec ≤ 315537897599) ∧ chkR s.rule = 0 ∧ s.inn.length ≤ 12 ∧ s.out.length ≤ 12 ∧ (∀ t ∈ secs s.inn, 0 ≤ t ∧ t ≤ 315537897599) ∧ (∀ t ∈ secs s.out, 0 ≤ t ∧ t ≤ 315537897599) := by
 unfold chkS at h
 by_cases h1 : Mo.chk s.kind s.sec ≠ 0
 ·rw [if_pos h1] at h; exact absurd h h1
 rw [if_neg h1] at h
 by_cases h2 : chkR s.rule ≠ 0
 ·rw [if_pos h2] at h; exact absurd h h2
 rw [if_neg h2] at h
 split at h
 ·omega
 split at h
 ·omega
 split at h
 ·omega
 rename_i hm
 by_cases h6 : alike s.kind s.inn ≠ 0
 ·rw [if_pos h6] at h; exact absurd h h6
 rw [if_neg h6] at h
 exact ⟨(chk_sec (Decidable.byContradiction h1)).2.2, Decidable.byContradiction h2, by omega, by omega, alike_sec (Decidable.byContradiction h6), alike_sec h⟩
theorem fineS {s : St} (f0 : 0 ≤ s.rule.freq) (h : chkS s = 0) (x y bud : Int) (once : Bool) : Fine (pS s x y bud once) := by
 obtain ⟨⟨a, b⟩, c, -⟩ := chkS_parts h
 exact ⟨f0, c, a, b, fin_le c⟩
def rulS (s : St) : List Int := rul (pS s 0 0 0 false)
theorem rul_S (s : St) (x y bud : Int) (once : Bool) : rul (pS s x y bud once) = rulS s := rul_alike rfl rfl rfl
def Mem (s : St) (t : Int) : Prop := (t ∈ rulS s ∨ t ∈ secs s.inn) ∧ t ∉ secs s.out
theorem rulS_bd {s : St} (f0 : 0 ≤ s.rule.freq) (h : chkS s = 0) {t : Int} (ht : t ∈ rulS s) : 0 ≤ t ∧ t ≤ 315537897599 := by
 have hF := fineS f0 h 0 0 0 false
 have hm := (rul_mem hF t).1 ht
 have h2 := hm.1
 unfold candidate at h2
 simp only [Bool.and_eq_true, decide_eq_true_eq] at h2
 have := hF.2.2.1
 have := hF.2.2.2.2
 omega
theorem mem_bd {s : St} (f0 : 0 ≤ s.rule.freq) (h : chkS s = 0) {t : Int} (ht : Mem s t) : 0 ≤ t ∧ t ≤ 315537897599 := by
 rcases ht.1 with h1 | h1
 ·exact rulS_bd f0 h h1
 ·exact (chkS_parts h).2.2.2.2.1 t h1
/-! ## Windows -/
theorem met_win {s : St} (x y bud : Int) : met (pS s x y bud false) (rulS s) = (rulS s).filter (hit (pS s x y bud false)) := met_all rfl _
theorem winF_ok {s : St} (f0 : 0 ≤ s.rule.freq) {x y bud : Int} (h : (winF s x y bud).2.2 = 0) :
  chkS s = 0 ∧ ¬ badW x y bud ∧ ∃ u, walk (pS s x y bud false) = some (u, (rulS s).filter (hit (pS s x y bud false))) ∧ winF s x y bud = (winR ((rulS s).filter (hit (pS s x y bud false))) (secs s.inn) (secs s.out) x y, u, 0) := by
 unfold winF at h ⊢
 by_cases h1 : chkS s ≠ 0
 ·rw [if_pos h1] at h; exact absurd h h1
 rw [if_neg h1] at h ⊢
 have h1' := Decidable.byContradiction h1
 by_cases h2 : badW x y bud
 ·rw [if_pos h2] at h; cases h
 rw [if_neg h2] at h ⊢
 refine ⟨h1', h2, ?_⟩
 cases hw : walk (pS s x y bud false) with
 | none => rw [hw] at h; cases h
 | some q =>
  obtain ⟨u, m⟩ := q
  have := walk_eq (fineS f0 h1' x y bud false) (by unfold badW at h2; show 0 ≤ x; omega) hw
  rw [rul_S, met_win] at this
  rw [this]
  exact ⟨u, rfl, rfl⟩
theorem rulS_rise {s : St} (f0 : 0 ≤ s.rule.freq) (h : chkS s = 0) : (rulS s).Pairwise (· < ·) := rul_rise (fineS f0 h 0 0 0 false)
theorem win_rise {s : St} (f0 : 0 ≤ s.rule.freq) {x y bud : Int} (h : (winF s x y bud).2.2 = 0) : (winF s x y bud).1.Pairwise (· < ·) := by
 obtain ⟨h1, -, u, -, e⟩ := winF_ok f0 h
 rw [e]
 exact winR_rise ((rulS_rise f0 h1).filter _)
theorem win_mem {s : St} (f0 : 0 ≤ s.rule.freq) {x y bud : Int} (h : (winF s x y bud).2.2 = 0) (t : Int) : t ∈ (winF s x y bud).1 ↔ Mem s t ∧ x ≤ t ∧ t < y := by
 obtain ⟨h1, -, u, -, e⟩ := winF_ok f0 h
 rw [e]
 show t ∈ winR _ _ _ _ _ ↔ _
 rw [winR_mem, List.mem_filter]
 unfold hit pS Mem
 simp only [Bool.and_eq_true, decide_eq_true_eq]
 constructor
 ·rintro ⟨h1 | h1, h2⟩
  ·exact ⟨⟨.inl h1.1, h2⟩, h1.2⟩
  ·exact ⟨⟨.inr h1.1, h2⟩, h1.2⟩
 ·rintro ⟨⟨h1 | h1, h2⟩, h3⟩
  ·exact ⟨.inl ⟨h1, h3⟩, h2⟩
  ·exact ⟨.inr ⟨h1, h3⟩, h2⟩
theorem win_err {s : St} {x y bud : Int} (h : (winF s x y bud).2.2 ≠ 0) : (winF s x y bud).1 = [] := by
 unfold winF at h ⊢
 by_cases h1 : chkS s ≠ 0
 ·rw [if_pos h1]
 rw [if_neg h1] at h ⊢
 by_cases h2 : badW x y bud
 ·rw [if_pos h2]
 rw [if_neg h2] at h ⊢
 cases hw : walk (pS s x y bud false) with
 | none => rfl
 | some q => rw [hw] at h; exact absurd rfl h
theorem parts_list {s : St} (f0 : 0 ≤ s.rule.freq) {a m b bud : Int} (ha : a ≤ m) (hb : m ≤ b) (h : (winF s a b bud).2.2 = 0) (h1 : (winF s a m bud).2.2 = 0) (h2 : (winF s m b bud).2.2 = 0) :
  (winF s a b bud).1 = (winF s a m bud).1 ++ (winF s m b bud).1 := by
 refine Tm.rise_ext (win_rise f0 h) ?_ fun t => ?_
 ·rw [List.pairwise_append]
  refine ⟨win_rise f0 h1, win_rise f0 h2, fun x hx y hy => ?_⟩
  have e1 := (win_mem f0 h1 x).1 hx
  have e2 := (win_mem f0 h2 y).1 hy
  omega
 ·rw [List.mem_append, win_mem f0 h, win_mem f0 h1, win_mem f0 h2]
  constructor
  ·rintro ⟨h3, h4, h5⟩
   by_cases hm : t < m
   ·exact .inl ⟨h3, h4, hm⟩
   ·exact .inr ⟨h3, by omega, h5⟩
  ·rintro (⟨h3, h4, h5⟩ | ⟨h3, h4, h5⟩)
   ·exact ⟨h3, h4, by omega⟩
   ·exact ⟨h3, by omega, h5⟩
theorem parts_cost {s : St} (f0 : 0 ≤ s.rule.freq) {a b bud x y : Int} (hx : 0 ≤ x) (hxy : x ≤ y) (hy : y ≤ b) (h : (winF s a b bud).2.2 = 0) (hc : 0 < s.rule.count) : (winF s x y bud).2.2 = 0 ∧ (winF s x y bud).2.1 ≤ (winF s a b bud).2.1 := by
 obtain ⟨h1, h2, u, hw, e⟩ := winF_ok f0 h
 obtain ⟨u', l', g1, g2⟩ := walk_less (p := pS s a b bud false) (q := pS s x y bud false) ⟨rfl, rfl, rfl, rfl, rfl, rfl⟩ hy hc hw
 have h3 : ¬ badW x y bud := by unfold badW at h2 ⊢; omega
 have e2 : winF s x y bud = (winR l' (secs s.inn) (secs s.out) x y, u', 0) := by
  unfold winF
  rw [if_neg (by simp [h1]), if_neg h3, g1]
 rw [e2, e]
 exact ⟨rfl, g2⟩
/-! ## The next member -/
theorem bestTo_spec (outs : List Int) (after : Int) : ∀ (l : List Int) (b : Int), (bestTo outs after b l = b ∨ (bestTo outs after b l ∈ l ∧ after < bestTo outs after b l ∧ bestTo outs after b l ∉ outs)) ∧ bestTo outs after b l ≤ b ∧ ∀ t ∈ l, after < t → t ∉ outs → bestTo outs after b l ≤ t
 | [], b => ⟨.inl rfl, Int.le_refl _, fun t ht => by cases ht⟩
 | x :: l, b => by
  have e : bestTo outs after b (x :: l) = bestTo outs after (if after < x ∧ x < b ∧ x ∉ outs then x else b) l := rfl
  rw [e]
  by_cases h : after < x ∧ x < b ∧ x ∉ outs
  ·rw [if_pos h]
   obtain ⟨i1, i2, i3⟩ := bestTo_spec outs after l x
   refine ⟨.inr ?_, by omega, fun t ht h1 h2 => ?_⟩
   ·rcases i1 with i1 | i1
    ·rw [i1]; exact ⟨List.mem_cons_self, h.1, h.2.2⟩
    ·exact ⟨List.mem_cons_of_mem _ i1.1, i1.2⟩
   ·rcases List.mem_cons.1 ht with rfl | ht
    ·exact i2
    ·exact i3 t ht h1 h2
  ·rw [if_neg h]
   obtain ⟨i1, i2, i3⟩ := bestTo_spec outs after l b
   refine ⟨?_, i2, fun t ht h1 h2 => ?_⟩
   ·rcases i1 with i1 | i1
    ·exact .inl i1
    ·exact .inr ⟨List.mem_cons_of_mem _ i1.1, i1.2⟩
   ·rcases List.mem_cons.1 ht with rfl | ht
    ·have : ¬ t < b := fun hh => h ⟨h1, hh, h2⟩
     omega
    ·exact i3 t ht h1 h2
theorem head_least {l : List Int} (h : l.Pairwise (· < ·)) {t : Int} (ht : l.head? = some t) : t ∈ l ∧ ∀ x ∈ l, t ≤ x := by
 cases l with
 | nil => cases ht
 | cons y l =>
  obtain rfl : y = t := by simpa using ht
  refine ⟨List.mem_cons_self, fun x hx => ?_⟩
  rcases List.mem_cons.1 hx with rfl | hx
  ·omega
  ·have := (List.pairwise_cons.1 h).1 x hx; omega
theorem nextF_some {s : St} {after bud u : Int} {m : List Int} (h1 : chkS s = 0) (h2 : ¬ badN after bud) (h : walk (pS s (after + 1) (best s after) bud true) = some (u, m)) : nextF s after bud = endN s after m := by
 unfold nextF
 rw [if_neg (by simp [h1]), if_neg h2, h]
theorem next_spec {s : St} (f0 : 0 ≤ s.rule.freq) {after bud : Int} (h : (nextF s after bud).2.2 = 0) :
  ((nextF s after bud).2.1 = true → Mem s (nextF s after bud).1 ∧ after < (nextF s after bud).1 ∧ ∀ x, Mem s x → after < x → (nextF s after bud).1 ≤ x) ∧
  ((nextF s after bud).2.1 = false → ∀ x, Mem s x → ¬ after < x) := by
 by_cases h1 : chkS s ≠ 0
 ·unfold nextF at h
  rw [if_pos h1] at h; exact absurd h h1
 have h1' := Decidable.byContradiction h1
 by_cases h2 : badN after bud
 ·unfold nextF at h
  rw [if_neg h1, if_pos h2] at h; cases h
 cases hw : walk (pS s (after + 1) (best s after) bud true) with
 | none =>
  unfold nextF at h
  rw [if_neg h1, if_neg h2, hw] at h; cases h
 | some q =>
  obtain ⟨u, m⟩ := q
  rw [nextF_some h1' h2 hw]
  clear h
  have hF := fineS f0 h1' (after + 1) (best s after) bud true
  have hm := walk_eq hF (by unfold badN at h2; show 0 ≤ after + 1; omega) hw
  have hfree : freeS s m = free (pS s (after + 1) (best s after) bud true) (rulS s) := by
   rw [hm, rul_S]
   exact free_first (p := pS s (after + 1) (best s after) bud true) rfl (rulS s)
  obtain ⟨b1, b2, b3⟩ := bestTo_spec (secs s.out) after (secs s.inn) 315537897600
  change best s after = _ ∨ (best s after ∈ _ ∧ _ < best s after ∧ best s after ∉ _) at b1
  change best s after ≤ _ at b2
  change ∀ t ∈ _, _ → _ → best s after ≤ t at b3
  have hrise := rulS_rise f0 h1'
  cases hf : freeS s m with
  | some t =>
   have e : endN s after m = (t, true, 0) := by unfold endN; rw [hf]
   rw [e]
   rw [hfree] at hf
   obtain ⟨t1, t2⟩ := head_least (hrise.filter _) hf
   obtain ⟨t3, t4⟩ := List.mem_filter.1 t1
   unfold hit pS at t4
   simp only [Bool.and_eq_true, decide_eq_true_eq, Bool.not_eq_true', decide_eq_false_iff_not] at t4
   refine ⟨fun _ => ⟨⟨.inl t3, t4.2⟩, by show after < t; omega, fun x hx hax => ?_⟩, fun hh => by cases hh⟩
   show t ≤ x
   rcases hx.1 with h5 | h5
   ·by_cases hxb : x < best s after
    ·refine t2 x (List.mem_filter.2 ⟨h5, ?_⟩)
     unfold hit pS
     simp only [Bool.and_eq_true, decide_eq_true_eq, Bool.not_eq_true', decide_eq_false_iff_not]
     exact ⟨⟨by omega, hxb⟩, hx.2⟩
    ·omega
   ·have := b3 x h5 hax hx.2
    omega
  | none =>
   have e : endN s after m = if best s after ≤ 315537897599 then (best s after, true, 0) else (0, false, 0) := by unfold endN; rw [hf]
   rw [e]
   rw [hfree] at hf
   have hno : ∀ x ∈ rulS s, x ∉ secs s.out → after < x → best s after ≤ x := fun x h5 h6 h7 => by
    unfold free at hf
    rw [List.head?_eq_none_iff, List.filter_eq_nil_iff] at hf
    have := hf x h5
    unfold hit pS at this
    simp only [Bool.and_eq_true, decide_eq_true_eq, Bool.not_eq_true', decide_eq_false_iff_not] at this
    by_cases hxb : x < best s after
    ·exact absurd ⟨⟨by omega, hxb⟩, h6⟩ this
    ·omega
   by_cases hb : best s after ≤ 315537897599
   ·rw [if_pos hb]
    have b4 : best s after ∈ secs s.inn ∧ after < best s after ∧ best s after ∉ secs s.out := by
     rcases b1 with b1 | b1
     ·omega
     ·exact b1
    refine ⟨fun _ => ⟨⟨.inr b4.1, b4.2.2⟩, b4.2.1, fun x hx hax => ?_⟩, fun hh => by cases hh⟩
    rcases hx.1 with h5 | h5
    ·exact hno x h5 hx.2 hax
    ·exact b3 x h5 hax hx.2
   ·rw [if_neg hb]
    refine ⟨(fun hh => by cases hh), fun _ x hx hax => ?_⟩
    have hx2 := mem_bd f0 h1' hx
    rcases hx.1 with h5 | h5
    ·have := hno x h5 hx.2 hax; omega
    ·have := b3 x h5 hax hx.2; omega
theorem next_err {s : St} {after bud : Int} (h1 : chkS s = 0) (h2 : ¬ badN after bud) : (nextF s after bud).2.2 = 0 ∨ (nextF s after bud).2.2 = 13 := by
 unfold nextF
 rw [if_neg (by simp [h1]), if_neg h2]
 cases walk (pS s (after + 1) (best s after) bud true) with
 | none => exact .inr rfl
 | some q =>
  left
  show (endN s after q.2).2.2 = 0
  unfold endN
  cases freeS s q.2 with
  | some t => rfl
  | none =>
   by_cases hb : best s after ≤ 315537897599
   ·simp only [if_pos hb]
   ·simp only [if_neg hb]
theorem steps_in {s : St} (f0 : 0 ≤ s.rule.freq) {a b bud bud' : Int} (h : (winF s a b bud).2.2 = 0) {i : Nat} (hi : i < (winF s a b bud).1.length) {at_ : Int}
  (hat : (i = 0 ∧ at_ = a - 1) ∨ (∃ j, ∃ hj : j < (winF s a b bud).1.length, i = j + 1 ∧ at_ = (winF s a b bud).1[j])) (hn : (nextF s at_ bud').2.2 = 0) : (nextF s at_ bud').2.1 = true ∧ (nextF s at_ bud').1 = (winF s a b bud).1[i] := by
 have hr := win_rise f0 h
 have hm := win_mem f0 h
 generalize (winF s a b bud).1 = l at *
 obtain ⟨n1, n2⟩ := next_spec f0 hn
 have hli := (hm l[i]).1 (List.getElem_mem hi)
 have hgt : at_ < l[i] := by
  rcases hat with ⟨rfl, rfl⟩ | ⟨j, hj, rfl, rfl⟩
  ·omega
  ·exact List.pairwise_iff_getElem.1 hr j (j + 1) hj hi (by omega)
 have his : (nextF s at_ bud').2.1 = true := by
  cases hh : (nextF s at_ bud').2.1
  ·exact absurd hgt (n2 hh _ hli.1)
  ·rfl
 obtain ⟨m1, m2, m3⟩ := n1 his
 refine ⟨his, ?_⟩
 have hle := m3 _ hli.1 hgt
 have hin : (nextF s at_ bud').1 ∈ l := by
  refine (hm _).2 ⟨m1, ?_, by omega⟩
  rcases hat with ⟨rfl, rfl⟩ | ⟨j, hj, rfl, rfl⟩
  ·omega
  ·have := (hm l[j]).1 (List.getElem_mem hj)
   omega
 obtain ⟨k, hk, hk2⟩ := List.getElem_of_mem hin
 have hki : ¬ k < i := fun hlt => by
  rcases hat with ⟨rfl, rfl⟩ | ⟨j, hj, rfl, rfl⟩
  ·omega
  ·by_cases hkj : k = j
   ·subst hkj; omega
   ·have := List.pairwise_iff_getElem.1 hr k j hk hj (by omega)
    omega
 by_cases hik : k = i
 ·subst hik; exact hk2.symm
 ·have := List.pairwise_iff_getElem.1 hr i k hi hk (by omega)
  omega
theorem steps_end {s : St} (f0 : 0 ≤ s.rule.freq) {a b bud bud' : Int} (h : (winF s a b bud).2.2 = 0) {at_ : Int}
  (hat : ((winF s a b bud).1.length = 0 ∧ at_ = a - 1) ∨ (∃ j, ∃ hj : j < (winF s a b bud).1.length, (winF s a b bud).1.length = j + 1 ∧ at_ = (winF s a b bud).1[j])) (hn : (nextF s at_ bud').2.2 = 0) : (nextF s at_ bud').2.1 = false ∨ b ≤ (nextF s at_ bud').1 := by
 have hr := win_rise f0 h
 have hm := win_mem f0 h
 generalize (winF s a b bud).1 = l at *
 obtain ⟨n1, n2⟩ := next_spec f0 hn
 cases his : (nextF s at_ bud').2.1
 ·exact .inl rfl
 ·right
  obtain ⟨m1, m2, m3⟩ := n1 his
  by_cases hb : b ≤ (nextF s at_ bud').1
  ·exact hb
  ·exfalso
   have hin : (nextF s at_ bud').1 ∈ l := by
    refine (hm _).2 ⟨m1, ?_, by omega⟩
    rcases hat with ⟨_, rfl⟩ | ⟨j, hj, _, rfl⟩
    ·omega
    ·have := (hm l[j]).1 (List.getElem_mem hj)
     omega
   obtain ⟨k, hk, hk2⟩ := List.getElem_of_mem hin
   rcases hat with ⟨h0, rfl⟩ | ⟨j, hj, h0, rfl⟩
   ·omega
   ·by_cases hkj : k = j
    ·subst hkj; omega
    ·have := List.pairwise_iff_getElem.1 hr k j hk hj (by omega)
     omega
/-! ## One second -/
theorem has_mem {s : St} (f0 : 0 ≤ s.rule.freq) {t bud : Int} (h : (hasF s t bud).2 = 0) : chkS s = 0 ∧ ((hasF s t bud).1 = true ↔ Mem s t) := by
 unfold hasF at h ⊢
 by_cases h1 : chkS s ≠ 0
 ·rw [if_pos h1] at h; exact absurd h h1
 rw [if_neg h1] at h ⊢
 by_cases h2 : t < 0 ∨ 315537897599 < t
 ·rw [if_pos h2] at h; cases h
 rw [if_neg h2] at h ⊢
 refine ⟨Decidable.byContradiction h1, ?_⟩
 have hm := win_mem f0 (s := s) (x := t) (y := t + 1) (bud := bud) h
 show decide (0 < _) = true ↔ _
 rw [decide_eq_true_iff]
 constructor
 ·intro hl
  obtain ⟨x, hx⟩ := List.exists_mem_of_length_pos hl
  obtain ⟨e1, e2, e3⟩ := (hm x).1 hx
  obtain rfl : x = t := by omega
  exact e1
 ·intro hM
  exact List.length_pos_of_mem ((hm t).2 ⟨hM, by omega, by omega⟩)
theorem has_err {s : St} {t bud : Int} (h : (hasF s t bud).2 ≠ 0) : (hasF s t bud).1 = false := by
 unfold hasF at h ⊢
 by_cases h1 : chkS s ≠ 0
 ·rw [if_pos h1]
 rw [if_neg h1] at h ⊢
 by_cases h2 : t < 0 ∨ 315537897599 < t
 ·rw [if_pos h2]
 rw [if_neg h2] at h ⊢
 rw [win_err h]; rfl
theorem cs_cut {p : P} (hF : Fine p) {t last : Int} (hl : last ≤ lastP p) (hlater : ∀ i, Inp p i → last < i → t < fr p.r i) : ∀ (n : Nat) (i : Int), (lastP p < i ∨ Inp p i) →
  (cs p (lastP p) n i).filter (fun x => decide (p.start ≤ x) && decide (x ≤ t)) = (cs p last n i).filter (fun x => decide (p.start ≤ x) && decide (x ≤ t))
 | 0, _, _ => rfl
 | n + 1, i, hi => by
  by_cases h1 : last < i
  ·have e : cs p last (n + 1) i = [] := by rw [cs, if_pos h1]
   rw [e, List.filter_nil, List.filter_eq_nil_iff]
   intro x hx
   have h2 := cs_from hF _ _ hi x hx
   have := hlater i h2.2 h1
   rw [decide_eq_false (show ¬ x ≤ t by omega)]; simp
  ·have h2 : ¬ lastP p < i := by omega
   rw [cs, cs, if_neg h1, if_neg h2, List.filter_append, List.filter_append, cs_cut hF hl hlater n _ (next_or hF (hi.resolve_left h2))]
def cnt1 (s : St) (t i : Int) : Nat := ((ofE s.rule s.sec i).filter fun x => decide (s.sec ≤ x) && decide (x ≤ t)).length
def rankTo (s : St) (t last : Int) : Nat → Int → Nat
 | 0, _ => 0
 | n + 1, i => if last < i then 0 else cnt1 s t i + rankTo s t last n (i + s.rule.interval)
theorem rankTo_cs (s : St) (t last : Int) (x y bud : Int) (once : Bool) : ∀ (n : Nat) (i : Int), rankTo s t last n i = ((cs (pS s x y bud once) last n i).filter fun x => decide (s.sec ≤ x) && decide (x ≤ t)).length
 | 0, _ => rfl
 | n + 1, i => by
  rw [rankTo, cs]
  split
  ·rfl
  ·rw [List.filter_append, List.length_append, rankTo_cs s t last x y bud once n]; rfl
theorem member_law {s : St} (f0 : 0 ≤ s.rule.freq) (h : chkS s = 0) {t : Int} (t0 : 0 ≤ t) (t1 : t ≤ 315537897599) :
  t ∈ rulS s ↔ candidate (pS s 0 0 0 false) t = true ∧ (0 < s.rule.count → (rankTo s t (Pd.index s.rule.freq s.rule.wkst t) (fuel (pS s 0 0 0 false) (first (pS s 0 0 0 false))) (first (pS s 0 0 0 false)) : Int) ≤ s.rule.count) := by
 have hF := fineS f0 h 0 0 0 false
 have hk := counts_ok hF.1 hF.2.1
 have hI : Inp (pS s 0 0 0 false) (Pd.index s.rule.freq s.rule.wkst t) := index_in f0 hk t0 t1
 have e : rank (pS s 0 0 0 false) t = rankTo s t (Pd.index s.rule.freq s.rule.wkst t) (fuel (pS s 0 0 0 false) (first (pS s 0 0 0 false))) (first (pS s 0 0 0 false)) := by
  rw [rankTo_cs s t _ 0 0 0 false]
  unfold rank all
  congr 1
  refine cs_cut hF hI.2 (fun i hi hlt => ?_) _ _ (.inr (first_in hF))
  have h1 : Pd.to s.rule.freq s.rule.wkst (Pd.index s.rule.freq s.rule.wkst t) ≤ Pd.frm s.rule.freq s.rule.wkst i := later f0 hk hI hi hlt
  have h2 : t < Pd.to s.rule.freq s.rule.wkst (Pd.index s.rule.freq s.rule.wkst t) := (Pd.parts hk f0 t0 t1).2.2.1
  show t < Pd.frm s.rule.freq s.rule.wkst i
  omega
 unfold rulS
 rw [rul_mem hF, e]
 rfl
end Go.Proofs.YtkbohijlhhpfbaaGreatDoor.Rs
/- A walk, step by step: plain lemmas for the loops of either side. -/
namespace Go.Proofs.YtkbohijlhhpfbaaGreatDoor.Rs
open Ru Xp
def bg (p : P) : Int × Bool := match begin p with
 | none => (0, false)
 | some i => (i, true)
theorem run_more {p : P} {last : Int} (hk : 1 ≤ p.r.interval) : ∀ (n m : Nat) (i left used : Int) (l : List Int), (last - i).toNat < n ∨ last < i → (last - i).toNat < m ∨ last < i → run p last n i left used l = run p last m i left used l
 | 0, 0, _, _, _, _, _, _ => rfl
 | 0, m + 1, i, left, used, l, h, _ => by
  have hl : last < i := by omega
  rw [run, run, if_pos hl]
 | n + 1, 0, i, left, used, l, _, h => by
  have hl : last < i := by omega
  rw [run, run, if_pos hl]
 | n + 1, m + 1, i, left, used, l, h, h' => by
  rw [run, run]
  split
  ·rfl
  ·rename_i hl
   split
   ·rfl
   ·split
    ·rfl
    ·simp only
     split
     ·rfl
     ·exact run_more hk n m _ _ _ _ (by omega) (by omega)
def runF (p : P) (i left used : Int) (m : List Int) : Option (Int × List Int) := run p (lastP p) (fuel p i) i left used m
theorem runF_over {p : P} {i left used : Int} {m : List Int} (h : lastP p < i) : runF p i left used m = some (used, m) := by unfold runF fuel; rw [run, if_pos h]
theorem runF_out {p : P} {i left used : Int} {m : List Int} (h : ¬ lastP p < i) (hb : p.b ≤ fr p.r i ∨ p.fin < fr p.r i) : runF p i left used m = some (used, m) := by unfold runF fuel; rw [run, if_neg h, if_pos hb]
theorem runF_spent {p : P} {i left used : Int} {m : List Int} (h : ¬ lastP p < i) (hb : ¬ (p.b ≤ fr p.r i ∨ p.fin < fr p.r i)) (hs : p.budget < used + costE p.r p.start i) : runF p i left used m = none := by unfold runF fuel; rw [run, if_neg h, if_neg hb, if_pos hs]
theorem runF_stop {p : P} {i left used : Int} {m : List Int} (h : ¬ lastP p < i) (hb : ¬ (p.b ≤ fr p.r i ∨ p.fin < fr p.r i)) (hs : ¬ p.budget < used + costE p.r p.start i) {q : Int × List Int} (hx : inner p (ofE p.r p.start i) left m = (true, q)) :
  runF p i left used m = some (used + costE p.r p.start i, q.2) := by
 unfold runF fuel; rw [run, if_neg h, if_neg hb, if_neg hs, hx]; rfl
theorem runF_next {p : P} (hk : 1 ≤ p.r.interval) {i left used : Int} {m : List Int} (h : ¬ lastP p < i) (hb : ¬ (p.b ≤ fr p.r i ∨ p.fin < fr p.r i)) (hs : ¬ p.budget < used + costE p.r p.start i) {q : Int × List Int} (hx : inner p (ofE p.r p.start i) left m = (false, q)) :
  runF p i left used m = runF p (i + p.r.interval) q.1 (used + costE p.r p.start i) q.2 := by
 unfold runF
 rw [show fuel p i = (lastP p - i).toNat + 1 from rfl, run, if_neg h, if_neg hb, if_neg hs, hx]
 exact run_more hk _ _ _ _ _ _ (by omega) (.inl (by unfold fuel; omega))
theorem walk_some {p : P} {i : Int} (h : begin p = some i) : walk p = runF p i p.r.count 0 [] := by unfold walk; rw [h]; rfl
theorem walk_none {p : P} (h : begin p = none) : walk p = some (0, []) := by unfold walk; rw [h]
theorem bg_some {p : P} {i : Int} (h : begin p = some i) : bg p = (i, true) := by unfold bg; rw [h]
theorem bg_none {p : P} (h : begin p = none) : bg p = (0, false) := by unfold bg; rw [h]
theorem begin_in {p : P} (hF : Fine p) {i : Int} (h : begin p = some i) : (lastP p < i ∨ Inp p i) ∧ 0 ≤ i ∧ i ≤ 315537899000 := by
 have hk := counts_ok hF.1 hF.2.1
 obtain ⟨k1, k2, c0, -⟩ := head_ok hF.2.1
 have h1 := first_in hF
 have b1 := idx_small hF h1
 unfold begin at h
 by_cases hc : 0 < p.r.count
 ·rw [if_pos hc] at h
  cases h
  exact ⟨.inr h1, by omega, by omega⟩
 ·rw [if_neg hc] at h
  by_cases hm : 315537897599 < max p.a p.start
  ·rw [if_pos hm] at h; cases h
  ·rw [if_neg hm] at h
   cases h
   have ht0 : 0 ≤ max p.a p.start := by have := hF.2.2.1; omega
   have hI := index_in hF.1 hk ht0 (show max p.a p.start ≤ 315537897599 by omega)
   have b2 := idx_small hF (i := Pd.index p.r.freq p.r.wkst (max p.a p.start)) hI
   obtain ⟨s1, s2, q, s3, s4⟩ := step_of b1.1 b1.2 b2.1 b2.2 k1 k2
   refine ⟨?_, by omega, ?_⟩
   ·by_cases hh : lastP p < Pd.step (first p) p.r.interval (Pd.index p.r.freq p.r.wkst (max p.a p.start))
    ·exact .inl hh
    ·exact .inr ⟨by have := h1.1; omega, by unfold lastP at hh; omega⟩
   ·cases q with
    | zero => simp at s3; omega
    | succ q =>
     have := s4 q (by omega)
     have e : ((q + 1 : Nat) : Int) * p.r.interval = (q : Int) * p.r.interval + p.r.interval := by rw [Int.natCast_add, Int.add_mul]; omega
     rw [e] at s3
     omega
theorem picksTo_le (ps l : List Int) : (picks ps l).length ≤ l.length := by
 unfold picks picksTo
 rw [List.length_map]
 refine Nat.le_trans (List.length_filter_le _ _) ?_
 rw [List.length_range]; exact Nat.le_refl _
theorem ofE_cost (r : R) (s i : Int) : ((ofE r s i).length : Int) ≤ costE r s i := by
 have h : ((allE r s i).length : Int) ≤ costE r s i := by
  unfold allE costE
  by_cases ho : okE r s i = true
  ·rw [if_pos ho]
   split
   ·have := allOf_length (dys r s i) (tmsP r s i)
    rw [this, Int.natCast_mul]; omega
   ·have : (0 : Int) ≤ ((dys r s i).length : Int) * (tmsP r s i).length := Int.mul_nonneg (by omega) (by omega)
    simp; omega
  ·rw [if_neg ho, if_neg (fun h => ho h.1)]; simp
 unfold ofE
 split
 ·exact h
 ·have := picksTo_le r.setpos (allE r s i)
  omega
theorem cost_bd (r : R) (s i : Int) : costE r s i ≤ 31622401 := by
 unfold costE
 split
 ·have := prod_le r s i
  rw [← Int.natCast_mul]; omega
 ·omega
/-! inner, step by step -/
theorem inner_nil {p : P} {left : Int} {m : List Int} : inner p [] left m = (false, left, m) := by rw [inner]
theorem inner_ahead {p : P} {t : Int} {l : List Int} {left : Int} {m : List Int} (h : t < p.start) : inner p (t :: l) left m = inner p l left m := by rw [inner, if_pos h]
theorem inner_over {p : P} {t : Int} {l : List Int} {left : Int} {m : List Int} (h : ¬ t < p.start) (h2 : p.fin < t) : inner p (t :: l) left m = (true, left, m) := by rw [inner, if_neg h, if_pos h2]
theorem inner_end {p : P} {t : Int} {l : List Int} {left : Int} {m : List Int} (h : ¬ t < p.start) (h2 : ¬ p.fin < t) (h3 : (ends p t || decide (left - 1 = 0)) = true) : inner p (t :: l) left m = (true, left - 1, add p t m) := by rw [inner, if_neg h, if_neg h2, if_pos h3]
theorem inner_on {p : P} {t : Int} {l : List Int} {left : Int} {m : List Int} (h : ¬ t < p.start) (h2 : ¬ p.fin < t) (h3 : ¬ (ends p t || decide (left - 1 = 0)) = true) : inner p (t :: l) left m = inner p l (left - 1) (add p t m) := by rw [inner, if_neg h, if_neg h2, if_neg h3]
theorem add_le (p : P) (t : Int) (m : List Int) : (add p t m).length ≤ m.length + 1 := by unfold add; split <;> simp
theorem add_hit {p : P} {t : Int} {m : List Int} (h : hit p t = true) : add p t m = m ++ [t] := by unfold add; rw [if_pos h]
theorem add_no {p : P} {t : Int} {m : List Int} (h : hit p t = false) : add p t m = m := by unfold add; rw [if_neg (by simp [h])]
theorem ends_nohit {p : P} {t : Int} (h : hit p t = false) : ends p t = false := by unfold ends; rw [h]; rfl
theorem or_no {b : Bool} {n : Int} (h : b = false) (h2 : ¬ n = 0) : ¬ (b || decide (n = 0)) = true := by rw [h, decide_eq_false h2]; decide
theorem or_left {b : Bool} {n : Int} (h : b = true) : (b || decide (n = 0)) = true := by rw [h]; rfl
theorem or_right {b : Bool} {n : Int} (h2 : n = 0) : (b || decide (n = 0)) = true := by rw [decide_eq_true h2, Bool.or_true]
theorem in_ahead {p : P} {t : Int} {l m : List Int} {left : Int} {R : Bool × Int × List Int} (h : inner p (t :: l) left m = R) (c1 : t < p.start) : inner p l left m = R := by rw [← h, inner_ahead c1]
theorem in_over {p : P} {t : Int} {l m : List Int} {left : Int} {R : Bool × Int × List Int} (h : inner p (t :: l) left m = R) (c1 : ¬ t < p.start) (c2 : p.fin < t) : R = (true, left, m) := by rw [← h, inner_over c1 c2]
theorem in_end {p : P} {t : Int} {l m : List Int} {left : Int} {R : Bool × Int × List Int} (h : inner p (t :: l) left m = R) (c1 : ¬ t < p.start) (c2 : ¬ p.fin < t) (h3 : (ends p t || decide (left - 1 = 0)) = true) : R = (true, left - 1, add p t m) := by rw [← h, inner_end c1 c2 h3]
theorem in_on {p : P} {t : Int} {l m : List Int} {c n : Int} {R : Bool × Int × List Int} (h : inner p (t :: l) (c - n) m = R) (c1 : ¬ t < p.start) (c2 : ¬ p.fin < t) (h3 : ¬ (ends p t || decide (c - n - 1 = 0)) = true) : inner p l (c - (n + 1)) (add p t m) = R := by
 rw [← h, inner_on c1 c2 h3, show c - (n + 1) = c - n - 1 by omega]
theorem at_same {g : Nat} {W : World} {k : Nat} {z : Int} {C : Prop} (h : ∃ g', (some ⟨g, 0, none⟩ : Option Addr) = some ⟨g', 0, none⟩ ∧ g' < W.heap.size ∧ W.cell? ⟨g', k, none⟩ = some (.int .i64 z) ∧ C) : g < W.heap.size ∧ W.cell? ⟨g, k, none⟩ = some (.int .i64 z) ∧ C := by
 obtain ⟨g', e, h⟩ := h
 injection e with e
 injection e with e1
 subst e1
 exact h
end Go.Proofs.YtkbohijlhhpfbaaGreatDoor.Rs
/- The walks through errandref26's has, dates and insert, and errandlaw26's has (printed by gen_rsmall.py). -/
namespace Go.Proofs.YtkbohijlhhpfbaaGreatDoor.Rs
open Go.RowKit Ru Ut Cw Ra Xp
theorem secs_snoc {l : List (Int × Int)} {k : Nat} (h : k < l.length) : secs (l.take (k + 1)) = secs (l.take k) ++ [l[k].2] := by
 unfold secs; rw [List.take_succ_eq_append_getElem h, List.map_append]; rfl
theorem secs_mem {l : List (Int × Int)} {x : Int × Int} (h : x ∈ l) : x.2 ∈ secs l := List.mem_map.2 ⟨x, h, rfl⟩
theorem secs_length (l : List (Int × Int)) : (secs l).length = l.length := by unfold secs; rw [List.length_map]
set_option maxHeartbeats 2000000 in
theorem rhas_any {w : World} {v : Value} {l : List (Int × Int)} (t : Int) (hl : Vals w v l) (hn : l.length ≤ 1000000) : Calls Tryz.prog 56 #[v, .int .i64 t] w fun e w' => e = .returned (.bool (decide (t ∈ secs l))) ∧ w = w' := by
 obtain ⟨a, c, hv⟩ := hl.slice
 have hA := Lib.hid (fun k (hk : k < l.length) => hl.at hv (Below.refl _ w) hk)
 subst hv
 clear hl
 go_enter Tryz.func56, Tryz.ntmps56
 go_wp2
 go_loop [5] (fun i => ∃ k : Nat, k ≤ l.length ∧ i = .int .i64 k ∧ Hid (t ∉ secs (l.take k))) (fun i => l.length - (intOf i).toNat)
 case atStart => exact ⟨0, by omega, rfl, Lib.hid (by simp [secs])⟩
 case round =>
  obtain ⟨k, hk, rfl, hno⟩ := hrel
  by_cases hlt : k < l.length
  ·obtain ⟨b, o, rfl, hb, hc1, hc2, hcap⟩ := hA.out k hlt
   have hs := secs_snoc hlt
   have hm := secs_mem (List.getElem_mem hlt)
   generalize l[k] = y at *
   obtain ⟨p, q⟩ := y
   simp only at hc1 hc2 hs hm
   by_cases hy : q = t
   ·subst hy
    have hr := Lib.hid hm
    clear hs hm
    go_wp2
    go_ret
    exact ⟨ret_b (decide_eq_true hr.out).symm, rfl⟩
   ·have hy2 : (q == t) = false := by simpa using hy
    have hr := Lib.hid (show t ∉ secs (l.take (k + 1)) by
     rw [hs, List.mem_append, List.mem_singleton]
     rintro (h | h)
     ·exact hno.out h
     ·exact hy h.symm)
    clear hs hm hy
    go_wp2
    go_round
    case rel => exact ⟨k + 1, by omega, by go_num, hr⟩
    case measure => simp [intOf]; omega
  ·have hr := Lib.hid (show t ∉ secs l by have := hno.out; rwa [List.take_of_length_le (by omega)] at this)
   go_wp2
   go_ret
   exact ⟨ret_b (decide_eq_false hr.out).symm, rfl⟩
set_option maxHeartbeats 2000000 in
theorem lhas_any {w : World} {v : Value} {l : List (Int × Int)} (t : Int) (hl : Vals w v l) (hn : l.length ≤ 1000000) : Calls Tryz.prog 32 #[v, .int .i64 t] w fun e w' => e = .returned (.bool (decide (t ∈ secs l))) ∧ w = w' := by
 obtain ⟨a, c, hv⟩ := hl.slice
 have hA := Lib.hid (fun k (hk : k < l.length) => hl.at hv (Below.refl _ w) hk)
 subst hv
 clear hl
 go_enter Tryz.func32, Tryz.ntmps32
 go_wp2
 go_loop [5] (fun i => ∃ k : Nat, k ≤ l.length ∧ i = .int .i64 k ∧ Hid (t ∉ secs (l.take k))) (fun i => l.length - (intOf i).toNat)
 case atStart => exact ⟨0, by omega, rfl, Lib.hid (by simp [secs])⟩
 case round =>
  obtain ⟨k, hk, rfl, hno⟩ := hrel
  by_cases hlt : k < l.length
  ·obtain ⟨b, o, rfl, hb, hc1, hc2, hcap⟩ := hA.out k hlt
   have hs := secs_snoc hlt
   have hm := secs_mem (List.getElem_mem hlt)
   generalize l[k] = y at *
   obtain ⟨p, q⟩ := y
   simp only at hc1 hc2 hs hm
   by_cases hy : q = t
   ·subst hy
    have hr := Lib.hid hm
    clear hs hm
    go_wp2
    go_ret
    exact ⟨ret_b (decide_eq_true hr.out).symm, rfl⟩
   ·have hy2 : (q == t) = false := by simpa using hy
    have hr := Lib.hid (show t ∉ secs (l.take (k + 1)) by
     rw [hs, List.mem_append, List.mem_singleton]
     rintro (h | h)
     ·exact hno.out h
     ·exact hy h.symm)
    clear hs hm hy
    go_wp2
    go_round
    case rel => exact ⟨k + 1, by omega, by go_num, hr⟩
    case measure => simp [intOf]; omega
  ·have hr := Lib.hid (show t ∉ secs l by have := hno.out; rwa [List.take_of_length_le (by omega)] at this)
   go_wp2
   go_ret
   exact ⟨ret_b (decide_eq_false hr.out).symm, rfl⟩
set_option maxHeartbeats 4000000 in
theorem rdates_any {w : World} {v : Value} {l : List (Int × Int)} (kind : Int) (hl : Vals w v l) (hk : KindsOk l) (hn : l.length ≤ 1000000) : Calls Tryz.prog 60 #[v, .int .u8 kind] w fun e w' => e = .returned (.int .i64 (alike kind l)) ∧ Below w.heap.size w w' := by
 obtain ⟨a, c, hv⟩ := hl.slice
 have hA := Lib.hid (fun W (hB : Below w.heap.size w W) k (hk : k < l.length) => hl.at hv hB hk)
 have hK := Lib.hid hk
 subst hv
 clear hl hk
 go_enter Tryz.func60, Tryz.ntmps60
 go_wp2
 go_loopw [5] (fun i wr => ∃ k : Nat, k ≤ l.length ∧ i = .int .i64 k ∧ Hid (alike kind (l.drop k) = alike kind l) ∧ Hid (Below w.heap.size w wr)) (fun i _ => l.length - (intOf i).toNat)
 case atStart => exact ⟨0, by omega, rfl, Lib.hid (by rw [List.drop_zero]), Lib.hid (Below.refl _ _)⟩
 case round =>
  obtain ⟨k, hk, rfl, hr, hB⟩ := hrel
  by_cases hlt : k < l.length
  ·obtain ⟨b, o, rfl, hb, e1, e2, hcap⟩ := hA.out wr hB.out k hlt
   have hAk := Lib.hid (fun W (hB : Below w.heap.size w W) => hA.out W hB k hlt)
   have hd := alike_drop kind hlt
   have hkk := hK.out l[k] (List.getElem_mem hlt)
   generalize l[k] = x at *
   obtain ⟨q, s⟩ := x
   simp only at e1 e2 hd hkk
   have FC := fun W => Ma.rcheck_any q s hkk W
   unfold Ma.val at FC
   by_cases hc : Mo.chk q s = 0
   ·rw [hc] at FC hd
    by_cases hq : q = kind
    ·subst hq
     have hd2 := Lib.hid (show alike q (l.drop (k + 1)) = alike q l by rw [← hr.out, hd]; simp)
     replace FC := Lib.hid FC
     clear hd hc
     go_wp2_with (first | (go_at_call 59; (with_reducible refine (FC.out _).mono ?_); rintro e w2 ⟨rfl, hB2⟩; have z1 := (hB2.cell (p := ⟨b, o + k * 2, none⟩) hb).trans e1; have z0 := Nat.lt_of_lt_of_le hb hB2.size))
     go_roundw
     case rel => exact ⟨k + 1, by omega, by go_num, hd2, Lib.hid (Below.next hB.out hB2)⟩
     case measure => simp [intOf]; omega
    ·have hd2 := Lib.hid (show alike kind l = 11 by rw [← hr.out, hd]; simp [hq])
     have hq2 : (q != kind) = true := by simpa using hq
     replace FC := Lib.hid FC
     clear hd hc
     go_wp2_with (first | (go_at_call 59; (with_reducible refine (FC.out _).mono ?_); rintro e w2 ⟨rfl, hB2⟩; have z1 := (hB2.cell (p := ⟨b, o + k * 2, none⟩) hb).trans e1; have z0 := Nat.lt_of_lt_of_le hb hB2.size))
     go_ret
     exact ⟨ret_i hd2.out.symm, Below.next hB.out hB2⟩
   ·have hc2 : (Mo.chk q s != 0) = true := by simp [hc]
    have hd2 := Lib.hid (show alike kind l = Mo.chk q s by rw [← hr.out, hd, if_pos hc])
    replace FC := Lib.hid FC
    clear hd hc
    go_wp2_with (first | (go_at_call 59; (with_reducible refine (FC.out _).mono ?_); rintro e w2 ⟨rfl, hB2⟩))
    go_ret
    exact ⟨ret_i hd2.out.symm, Below.next hB.out hB2⟩
  ·have hd2 := Lib.hid (show alike kind l = 0 by rw [← hr.out, List.drop_of_length_le (by omega)]; rfl)
   go_wp2
   go_ret
   exact ⟨ret_i hd2.out.symm, hB.out⟩
def insG (t : Int) : Bool → List Int → List Int
 | true, l => l
 | false, [] => [t]
 | false, x :: l => if t < x then t :: x :: l else x :: insG t false l
theorem insG_lt {t y : Int} {l : List Int} (h : t < y) : insG t false (y :: l) = t :: y :: l := by rw [insG, if_pos h]
theorem insG_ge {t y : Int} {l : List Int} (h : ¬ t < y) : insG t false (y :: l) = y :: insG t false l := by rw [insG, if_neg h]
theorem insG_eq {t : Int} : ∀ {l : List Int}, insG t false l = l.takeWhile (fun x => decide (x ≤ t)) ++ t :: l.dropWhile (fun x => decide (x ≤ t))
 | [] => rfl
 | x :: l => by
  rw [insG]
  by_cases h : t < x
  ·rw [if_pos h, List.takeWhile_cons, List.dropWhile_cons, decide_eq_false (show ¬ x ≤ t by omega)]; simp
  ·rw [if_neg h, List.takeWhile_cons, List.dropWhile_cons, decide_eq_true (show x ≤ t by omega), insG_eq]; simp
theorem insG_ins {t : Int} {l : List Int} (h : t ∉ l) : insG t false l = insR l t := by unfold insR; rw [if_neg h, insG_eq]
theorem len_le {n k : Nat} {dn : Bool} (h : n ≤ k + (if dn then 1 else 0)) : n ≤ k + 1 := by cases dn <;> simp at h <;> omega
theorem len_add {n k : Nat} {dn : Bool} (h : n ≤ k + (if dn then 1 else 0)) : n + 1 ≤ k + 1 + (if dn then 1 else 0) := by cases dn <;> simp at h ⊢ <;> omega
theorem len_add2 {n k : Nat} (h : n ≤ k + (if false then 1 else 0)) : n + 1 + 1 ≤ k + 1 + (if true then 1 else 0) := by simp at h ⊢; omega
def GivesB (w : World) (B : Nat) (l : List Int) (e : Ending) (w' : World) : Prop := ∃ v, e = .returned v ∧ OwnI w' B v l ∧ Below w.heap.size w w'
theorem givesB {w W : World} {B B' : Nat} {v : Value} {l m : List Int} (h : OwnI W B' v m) (hl : m = l) (hb : B ≤ B') (hB : Below w.heap.size w W) : GivesB w B l (.returned v) W := by subst hl; exact ⟨_, rfl, h.base hb, hB⟩
set_option maxHeartbeats 4000000 in
theorem insert_any {w : World} {B : Nat} {v : Value} {l : List Int} (t : Int) (hO : OwnI w B v l) (hb : B ≤ w.heap.size) (hn : l.length ≤ 100000) : Calls Tryz.prog 55 #[v, .int .i64 t] w (GivesB w B (insR l t)) := by
 obtain ⟨a, c, hv⟩ := hO.slice
 have hA := Lib.hid (fun W (hB : Below w.heap.size w W) k (hk : k < l.length) => Xp.ints_at hO.ints hv hB hk)
 subst hv
 replace hO := Lib.hid hO
 go_enter Tryz.func55, Tryz.ntmps55
 go_wp2
 go_loopw [5, 6, 7] (fun u d i wr => ∃ k : Nat, k ≤ l.length ∧ i = .int .i64 k ∧ ∃ (m : List Int) (dn : Bool), d = .bool dn ∧ OwnI wr w.heap.size u m ∧ Hid (m ++ insG t dn (l.drop k) = insG t false l) ∧ Hid (t ∉ l.take k) ∧ Hid (m.length ≤ k + (if dn then 1 else 0)) ∧ Hid (Below w.heap.size w wr)) (fun _ _ i _ => l.length - (intOf i).toNat)
 case atStart => exact ⟨0, by omega, rfl, [], false, rfl, OwnI.nil _ _, Lib.hid (by rw [List.drop_zero]; rfl), Lib.hid (by simp), Lib.hid (by simp), Lib.hid (Below.refl _ _)⟩
 case round =>
  obtain ⟨k, hk, rfl, m, dn, rfl, hown, he, hno, hln, hB⟩ := hrel
  replace hown := Lib.hid hown
  by_cases hlt : k < l.length
  ·obtain ⟨b, o, rfl, hbb, hc, hcap⟩ := hA.out wr hB.out k hlt
   have hAk := Lib.hid (fun W (hB : Below w.heap.size w W) => hA.out W hB k hlt)
   have hd := List.drop_eq_getElem_cons hlt
   have hs := List.take_succ_eq_append_getElem hlt
   have hm := List.getElem_mem hlt
   generalize l[k] = y at *
   by_cases hy : y = t
   ·subst hy
    have hr := Lib.hid (show insR l y = l by unfold insR; rw [if_pos hm])
    clear hd hs hm
    go_wp2
    go_ret
    exact givesB (hO.out.below hB.out) hr.out.symm (Nat.le_refl _) hB.out
   ·have hy2 : (y == t) = false := by simpa using hy
    have hno2 := Lib.hid (show t ∉ l.take (k + 1) by
     rw [hs, List.mem_append, List.mem_singleton]
     rintro (h | h)
     ·exact hno.out h
     ·exact hy h.symm)
    have hln2 := Lib.hid (show m.length ≤ 1000000 by have := len_le hln.out; omega)
    by_cases h1 : t < y
    ·cases dn
     ·have he2 := Lib.hid (show (m ++ [t]) ++ [y] ++ insG t true (l.drop (k + 1)) = insG t false l by
       rw [← he.out, hd, insG_lt h1]; simp [insG])
      have hln3 := Lib.hid (show (m ++ [t]).length ≤ 1000000 by have := len_le hln.out; rw [List.length_append, List.length_singleton]; omega)
      clear hd hs hm hy
      go_wp2_with (first
       | (at_builtin; refine push_int rfl _ _ rfl w.heap.size _ m rfl hown.out rfl hln2.out hB.out.size ?_; intro v5 w5 hown5 hB5; obtain ⟨bx, ox, hbx, g1, g2, g3⟩ := hAk.out w5 (hB.out.trans hB5); injection hbx with hbx; injection hbx with h1 h2; subst h1; subst h2; clear hown hln2; replace hB5 := Lib.hid (hB.out.trans hB5); replace hown5 := Lib.hid hown5)
       | (at_builtin; refine push_int rfl _ _ rfl w.heap.size _ (m ++ [t]) rfl hown5.out rfl hln3.out hB5.out.size ?_; intro v6 w6 hown6 hB6))
      go_roundw
      case rel => exact ⟨k + 1, by omega, by go_num, _, true, rfl, hown6, he2, hno2, Lib.hid (by rw [List.length_append, List.length_append, List.length_singleton, List.length_singleton]; exact len_add2 hln.out), Lib.hid (hB5.out.trans hB6)⟩
      case measure => simp [intOf]; omega
     ·have he2 := Lib.hid (show m ++ [y] ++ insG t true (l.drop (k + 1)) = insG t false l by rw [← he.out, hd]; simp [insG])
      clear hd hs hm hy
      go_wp2_with (first
       | (at_builtin; refine push_int rfl _ _ rfl w.heap.size _ m rfl hown.out rfl hln2.out hB.out.size ?_; intro v5 w5 hown5 hB5))
      go_roundw
      case rel => exact ⟨k + 1, by omega, by go_num, _, true, rfl, hown5, he2, hno2, Lib.hid (by rw [List.length_append, List.length_singleton]; exact len_add hln.out), Lib.hid (hB.out.trans hB5)⟩
      case measure => simp [intOf]; omega
    ·have he2 := Lib.hid (show m ++ [y] ++ insG t dn (l.drop (k + 1)) = insG t false l by
      rw [← he.out, hd]
      cases dn
      ·rw [insG_ge h1]; simp
      ·simp [insG])
     clear hd hs hm hy
     go_wp2_with (first
      | (at_builtin; refine push_int rfl _ _ rfl w.heap.size _ m rfl hown.out rfl hln2.out hB.out.size ?_; intro v5 w5 hown5 hB5))
     go_roundw
     case rel => exact ⟨k + 1, by omega, by go_num, _, dn, rfl, hown5, he2, hno2, Lib.hid (by rw [List.length_append, List.length_singleton]; exact len_add hln.out), Lib.hid (hB.out.trans hB5)⟩
     case measure => simp [intOf]; omega
  ·have hke := Lib.hid (show t ∉ l by have := hno.out; rwa [List.take_of_length_le (by omega)] at this)
   have hr := Lib.hid (insG_ins hke.out)
   have hdr : l.drop k = [] := List.drop_of_length_le (by omega)
   have hln2 := Lib.hid (show m.length ≤ 1000000 by have := len_le hln.out; omega)
   cases dn
   ·have he2 := Lib.hid (show m ++ [t] = insR l t by rw [← hr.out, ← he.out, hdr]; rfl)
    clear hdr
    go_wp2_with (first
     | (at_builtin; refine push_int rfl _ _ rfl w.heap.size _ m rfl hown.out rfl hln2.out hB.out.size ?_; intro v5 w5 hown5 hB5))
    go_ret
    exact givesB hown5 he2.out hb (hB.out.trans hB5)
   ·have he2 := Lib.hid (show m = insR l t by rw [← hr.out, ← he.out, hdr]; simp [insG])
    clear hdr
    go_wp2
    go_ret
    exact givesB hown.out he2.out hb hB.out
end Go.Proofs.YtkbohijlhhpfbaaGreatDoor.Rs
/- The walks through slices.IndexFunc and slices.DeleteFunc at a slice of integers that the call owns, with Window's closure. -/
namespace Go.Proofs.YtkbohijlhhpfbaaGreatDoor.Rs
open Go.RowKit Ru Ut Cw Ra Xp
set_option maxHeartbeats 2000000 in
theorem win1_any (b : Nat) {W : World} {vo : Value} {l : List (Int × Int)} (t : Int) (hc : W.cell? ⟨b, 18, none⟩ = some vo) (hl : Vals W vo l) (hn : l.length ≤ 1000000) :
  Calls Tryz.prog 52 #[.int .i64 t, .pointer (some ⟨b, 0, none⟩)] W fun e w' => e = .returned (.bool (decide (t ∈ secs l))) ∧ Below W.heap.size W w' := by
 have F := at_any t hl hn
 obtain ⟨a, c, rfl⟩ := hl.slice
 replace F := Lib.hid F
 clear hl
 go_enter Tryz.func52, Tryz.ntmps52
 go_wp2_with (first
  | (go_at_call 53; (with_reducible refine F.out.mono ?_); rintro e w1 ⟨rfl, hB⟩))
 go_ret
 exact ⟨rfl, hB⟩
def idxP (P : Int → Bool) (l : List Int) : Int := if l.any P = true then (l.findIdx P : Int) else -1
theorem idx_hit {P : Int → Bool} {l : List Int} {k : Nat} (hk : k < l.length) (h : P l[k] = true) (hno : (l.take k).any P = false) : idxP P l = k := by
 have ha : l.any P = true := List.any_eq_true.2 ⟨l[k], List.getElem_mem hk, h⟩
 have he : l.findIdx P = k := (List.findIdx_eq hk).2 ⟨h, fun j hj => by
  rw [List.any_eq_false] at hno
  have hjl : j < l.length := by omega
  have := hno l[j] (by rw [List.mem_take_iff_getElem]; exact ⟨j, by omega, rfl⟩)
  simpa using this⟩
 unfold idxP
 rw [if_pos ha, he]
theorem idx_none {P : Int → Bool} {l : List Int} (h : l.any P = false) : idxP P l = -1 := by unfold idxP; rw [h]; rfl
theorem any_snoc {P : Int → Bool} {l : List Int} {k : Nat} (hk : k < l.length) : (l.take (k + 1)).any P = ((l.take k).any P || P l[k]) := by
 rw [List.take_succ_eq_append_getElem hk, List.any_append]; simp
set_option maxHeartbeats 2000000 in
theorem indexI_any {w : World} {B : Nat} {v : Value} {l : List Int} (k1 : Value) (P : Int → Bool) (hO : OwnI w B v l) (hn : l.length ≤ 1000000) (hp : ∀ W, Below w.heap.size w W → ∀ x ∈ l, Calls Tryz.prog 52 #[.int .i64 x, k1] W fun e W' => e = .returned (.bool (P x)) ∧ Below W.heap.size W W') :
  Calls Tryz.prog 92 #[v, .func (.func 52) #[] #[k1]] w fun e w' => e = .returned (.int .i64 (idxP P l)) ∧ Below w.heap.size w w' := by
 obtain ⟨a, c, rfl⟩ := hO.slice
 have HC := Lib.hid (fun W (hB : Below w.heap.size w W) k (hk : k < l.length) => own_at hO hB hk)
 have HP := Lib.hid hp
 clear hO hp
 go_enter Tryz.func92, Tryz.ntmps92
 go_wp2
 go_loopw [8] (fun i wr => ∃ k : Nat, k ≤ l.length ∧ i = .int .i64 k ∧ Hid ((l.take k).any P = false) ∧ Hid (Below w.heap.size w wr)) (fun i _ => l.length - (intOf i).toNat)
 case atStart => exact ⟨0, by omega, rfl, Lib.hid (by simp), Lib.hid (Below.refl _ _)⟩
 case round =>
  obtain ⟨k, hk1, rfl, hx, hB⟩ := hrel
  by_cases hk : k < l.length
  ·obtain ⟨b, rfl, hb, hcell, hcap⟩ := HC.out wr hB.out k hk
   have F := HP.out wr hB.out l[k] (List.getElem_mem hk)
   have hsn := any_snoc (P := P) hk
   have hhit := Lib.hid (fun h => idx_hit (P := P) hk h hx.out)
   generalize l[k] = x at *
   cases hPx : P x
   ·rw [hPx] at F
    have hx2 := Lib.hid (show (l.take (k + 1)).any P = false by rw [hsn, hx.out, hPx]; rfl)
    replace F := Lib.hid F
    clear hPx hsn
    go_wp2_with (go_at_call 52; (with_reducible refine F.out.mono ?_); rintro e w1 ⟨rfl, hB1⟩)
    go_roundw
    case rel => exact ⟨k + 1, by omega, by go_num, hx2, Lib.hid (Below.next hB.out hB1)⟩
    case measure => simp [intOf]; omega
   ·rw [hPx] at F
    have hr := Lib.hid (hhit.out hPx)
    replace F := Lib.hid F
    clear hPx hsn
    go_wp2_with (go_at_call 52; (with_reducible refine F.out.mono ?_); rintro e w1 ⟨rfl, hB1⟩)
    go_ret
    exact ⟨ret_i hr.out.symm, Below.next hB.out hB1⟩
  ·have hr := Lib.hid (idx_none (P := P) (l := l) (by have := hx.out; rwa [List.take_of_length_le (by omega)] at this))
   go_wp2
   go_ret
   exact ⟨ret_i hr.out.symm, hB.out⟩
/-! ## A row that is cut, its tail overwritten -/
theorem ownsRow_tail {B : Nat} {E : TypeId} {g n cap : Nat} : ∀ (vs : List Value) (o : Nat) (w : World) (xs : List Value), w.ownsRow B E 1 (.slice (some ⟨g, 0, none⟩) n cap) n xs →
  ∃ ys, (w.setCells g o vs).ownsRow B E 1 (.slice (some ⟨g, 0, none⟩) n cap) n ys ∧ ys.take o = xs.take o
 | [], o, w, xs, h => ⟨xs, h, rfl⟩
 | v :: r, o, w, xs, h => by
  obtain ⟨ys, h1, h2⟩ := ownsRow_tail r (o + 1) _ _ (h.stored o v).1
  refine ⟨ys, h1, ?_⟩
  have e : (ys.take (o + 1)).take o = ((xs.set o v).take (o + 1)).take o := by rw [h2]
  rw [List.take_take, List.take_take, Nat.min_eq_left (by omega)] at e
  rw [e, List.take_set_of_le (Nat.le_refl o)]
theorem ownsRow_cut {w : World} {B : Nat} {E : TypeId} {g n cap p : Nat} {xs : List Value} (h : w.ownsRow B E 1 (.slice (some ⟨g, 0, none⟩) n cap) n xs) (hp : p ≤ n) : w.ownsRow B E 1 (.slice (some ⟨g, 0, none⟩) p cap) p (xs.take p) := by
 rcases h.2 with ⟨h', _⟩ | ⟨g', cap', cur, h', hb, hg, hnc, hcm, hcs, ht⟩
 ·simp at h'
 ·simp only [Value.slice.injEq, Option.some.injEq, Addr.mk.injEq, and_true, true_and] at h'
  obtain ⟨rfl, rfl⟩ := h'
  refine ⟨by rw [List.length_take, h.1]; omega, .inr ⟨g, cap, cur, rfl, hb, hg, by omega, hcm, hcs, ?_⟩⟩
  rw [← ht, List.take_take, Nat.mul_one, Nat.mul_one, Nat.min_eq_left hp]
theorem setCells_below {g B : Nat} {a : World} (hB : B ≤ g) : ∀ (vs : List Value) (o : Nat) (w : World), Below B a w → Below B a (w.setCells g o vs)
 | [], _, _, h => h
 | v :: r, o, _, h => setCells_below hB r (o + 1) _ (h.setCell hB v)
theorem filter_snoc {P : Int → Bool} {l : List Int} {k : Nat} (hk : k < l.length) : (l.take (k + 1)).filter P = (l.take k).filter P ++ if P l[k] = true then [l[k]] else [] := by
 rw [List.take_succ_eq_append_getElem hk, List.filter_append]
 by_cases h : P l[k] = true <;> simp [h]
theorem filter_all {P : Int → Bool} {l : List Int} (h : l.any P = false) : l.filter (fun x => !P x) = l := by
 rw [List.filter_eq_self]
 intro x hx
 rw [List.any_eq_false] at h
 simpa using h x hx
theorem zeroInt : ∀ w : World, (zeroValue 3).run Tryz.prog w = .ok (.int .i64 0) w := Tryz.zeroValue3
set_option maxHeartbeats 4000000 in
theorem deleteI_any {w : World} {B : Nat} {v : Value} {l : List Int} (k1 : Value) (P : Int → Bool) (hO : OwnI w B v l) (hb : B ≤ w.heap.size) (hn : l.length ≤ 1000000) (hp : ∀ W, Below B w W → ∀ x ∈ l, Calls Tryz.prog 52 #[.int .i64 x, k1] W fun e W' => e = .returned (.bool (P x)) ∧ Below W.heap.size W W') :
  Calls Tryz.prog 51 #[v, .func (.func 52) #[] #[k1]] w fun e w' => ∃ u, e = .returned u ∧ OwnI w' B u (l.filter fun x => !P x) ∧ Below B w w' := by
 have FI := indexI_any k1 P hO hn (fun W hB x hx => hp W (hB.mono hb) x hx)
 by_cases ha : l.any P = true
 rotate_left
 ·have ha2 : l.any P = false := by simpa using ha
  rw [idx_none ha2] at FI
  rw [filter_all ha2]
  obtain ⟨a, c, rfl⟩ := hO.slice
  replace FI := Lib.hid FI
  replace hO := Lib.hid hO
  clear ha ha2 hp
  go_enter Tryz.func51, Tryz.ntmps51
  go_wp2_with (go_at_call 92; (with_reducible refine FI.out.mono ?_); rintro e w1 ⟨rfl, hB1⟩)
  go_ret
  exact ⟨_, rfl, hO.out.below hB1, hB1.mono hb⟩
 ·have hk0 : l.findIdx P < l.length := List.findIdx_lt_length.2 (by simpa [List.any_eq_true] using ha)
  have hpk : P l[l.findIdx P] = true := List.findIdx_getElem
  have hno : (l.take (l.findIdx P)).any P = false := by
   rw [List.any_eq_false]
   intro x hx
   rw [List.mem_take_iff_getElem] at hx
   obtain ⟨j, hj, rfl⟩ := hx
   simpa using List.not_of_lt_findIdx (p := P) (xs := l) (i := j) (by omega)
  rw [idx_hit hk0 hpk hno] at FI
  have hf0 : (l.take (l.findIdx P + 1)).filter (fun x => !P x) = l.take (l.findIdx P) := by
   rw [filter_snoc hk0, if_neg (by simp [hpk]), List.append_nil, filter_all hno]
  generalize l.findIdx P = k0 at *
  have hne1 : ((k0 : Int) == -1) = false := beq_eq_false_iff_ne.2 (by omega)
  obtain ⟨g, cap, rfl, hbg, hg, hcap, hcm, hcell⟩ := ownsRow_pos hO (by omega)
  unfold OwnI at hO
  have hw := Lib.hid hO
  replace FI := Lib.hid FI
  replace hf0 := Lib.hid hf0
  replace hp := Lib.hid hp
  clear ha hpk hno hO hcell
  go_enter Tryz.func51, Tryz.ntmps51
  go_wp2_with (go_at_call 92; (with_reducible refine FI.out.mono ?_); rintro e w1 ⟨rfl, hB1⟩)
  go_loopw [5, 6] (fun i j wr => ∃ p q : Nat, p < q ∧ q ≤ l.length ∧ i = .int .i64 p ∧ j = .int .i64 q ∧ ∃ cur : List Int, cur.length = l.length ∧ wr.ownsRow B 3 1 (.slice (some ⟨g, 0, none⟩) l.length cap) l.length (ic cur) ∧ Hid (cur.take p = (l.take q).filter fun x => !P x) ∧ Hid (cur.drop q = l.drop q) ∧ Hid (Below B w wr)) (fun _ j _ => l.length - (intOf j).toNat)
  case atStart => exact ⟨k0, k0 + 1, by omega, by omega, rfl, by go_num, l, rfl, ownsRow_below hw.out hB1, Lib.hid hf0.out.symm, Lib.hid rfl, Lib.hid (hB1.mono hb)⟩
  case round =>
   obtain ⟨p, q, hpq, hq, rfl, rfl, cur, hlen, hown, ht, hd, hB⟩ := hrel
   replace hlen := Lib.hid hlen
   replace hown := Lib.hid hown
   have hgr : g < wr.heap.size := by have := hB.out.size; exact (hown.out.lt g rfl).2
   have HCq := fun (j : Nat) (hj : j < l.length) => (hown.out.cellAt j (by omega))
   have hfz := fun j => hown.out.frozenAt j
   by_cases hlt : q < l.length
   ·have hcq : wr.cell? ⟨g, q, none⟩ = some (.int .i64 l[q]) := by
     rw [HCq q hlt]
     have h1 : cur[q]? = l[q]? := by
      have := congrArg (fun x => x[0]?) hd.out
      simpa using this
     unfold ic
     rw [List.getElem?_map, h1, List.getElem?_eq_getElem hlt]; rfl
    obtain ⟨y, hy⟩ : ∃ y, wr.cell? ⟨g, p, none⟩ = some y := by
     rw [HCq p (by omega)]
     exact ⟨_, List.getElem?_eq_getElem (by rw [ic_length]; have := hlen.out; omega)⟩
    have hzp := hfz p
    have F := hp.out wr hB.out l[q] (List.getElem_mem hlt)
    have hsn := filter_snoc (P := fun x => !P x) hlt
    have hd2 := Lib.hid (show cur.drop (q + 1) = l.drop (q + 1) by
     have := congrArg (List.drop 1) hd.out
     rwa [List.drop_drop, List.drop_drop] at this)
    generalize l[q] = x at *
    clear HCq hfz
    cases hPx : P x
    ·rw [hPx] at F
     have ht2 := Lib.hid (show (cur.set p x).take (p + 1) = (l.take (q + 1)).filter fun x => !P x by
      rw [hsn, hPx, ← ht.out, List.take_succ_eq_append_getElem (by rw [List.length_set]; have := hlen.out; omega), List.take_set_of_le (Nat.le_refl p)]
      simp)
     have hd3 := Lib.hid (show (cur.set p x).drop (q + 1) = l.drop (q + 1) by rw [List.drop_set_of_lt (by omega)]; exact hd2.out)
     replace F := Lib.hid F
     clear hPx hsn
     go_wp2_with (go_at_call 52; (with_reducible refine F.out.mono ?_); rintro e w2 ⟨rfl, hB2⟩; have y2 := (hB2.cell (p := ⟨g, p, none⟩) hgr).trans hy; have z2 := (hB2.frozen (p := ⟨g, p, none⟩) hgr).trans hzp)
     go_roundw
     case rel =>
      refine ⟨p + 1, q + 1, by omega, by omega, by go_num, by go_num, cur.set p x, by rw [List.length_set]; exact hlen.out, ?_, ht2, hd3, Lib.hid ((hB.out.trans (hB2.mono (Nat.le_trans hb hB.out.size))).setCell hbg _)⟩
      have := ((ownsRow_below hown.out hB2).stored p (.int .i64 x)).1
      unfold ic at this ⊢
      rwa [← List.map_set] at this
     case measure => simp [intOf]; omega
    ·rw [hPx] at F
     have ht2 := Lib.hid (show cur.take p = (l.take (q + 1)).filter fun x => !P x by rw [hsn, hPx, ht.out]; simp)
     replace F := Lib.hid F
     clear hPx hsn
     go_wp2_with (go_at_call 52; (with_reducible refine F.out.mono ?_); rintro e w2 ⟨rfl, hB2⟩)
     go_roundw
     case rel => exact ⟨p, q + 1, by omega, by omega, rfl, by go_num, cur, hlen.out, ownsRow_below hown.out hB2, ht2, hd2, Lib.hid (hB.out.trans (hB2.mono (Nat.le_trans hb hB.out.size)))⟩
     case measure => simp [intOf]; omega
   ·have hpl : p < l.length := by omega
    have hcl := fun ty => Lib.run_clear_slice (P := Tryz.prog) wr 24 3 ty (.int .i64 0) Tryz.underlying24 zeroInt rfl rfl g p (l.length - p) (cap - p) (by omega)
     (fun j hj => by rw [HCq (p + j) (by omega)]; simp [ic_length]; have := hlen.out; omega) (fun j _ => hfz (p + j))
    obtain ⟨W3, hW3⟩ : ∃ W3, W3 = wr.setCells g p (List.replicate (l.length - p) (Value.int .i64 0)) := ⟨_, rfl⟩
    have hres := Lib.hid (show OwnI W3 B (.slice (some ⟨g, 0, none⟩) p cap) (l.filter fun x => !P x) by
     obtain ⟨ys, h1, h2⟩ := ownsRow_tail (List.replicate (l.length - p) (Value.int .i64 0)) p wr _ hown.out
     have h3 := ownsRow_cut h1 (Nat.le_of_lt hpl)
     rw [h2, ← hW3] at h3
     have h4 : l.filter (fun x => !P x) = cur.take p := by
      rw [ht.out, List.take_of_length_le (by omega)]
     unfold OwnI
     rw [h4, List.length_take, hlen.out, Nat.min_eq_left (Nat.le_of_lt hpl)]
     unfold ic at h3 ⊢
     rwa [List.map_take])
    have hres2 := Lib.hid (show Below B w W3 by rw [hW3]; exact setCells_below hbg _ _ _ hB.out)
    rw [← hW3] at hcl
    clear HCq hfz hW3
    go_wp2
    go_ret
    exact ⟨_, rfl, hres.out, hres2.out⟩
end Go.Proofs.YtkbohijlhhpfbaaGreatDoor.Rs
/- What stays aside of a row that grows, and of one block that is written: small laws on worlds. -/
namespace Go.Proofs.YtkbohijlhhpfbaaGreatDoor.Rs
open Go.RowKit Ru Ut Cw Ra Xp
structure Asd (b : Option Nat) (w0 : World) (u0 : Value) (w : World) (u : Value) : Prop where
 os : w.os = w0.os
 tape : w.tape = w0.tape
 output : w.output = w0.output
 size : w0.heap.size ≤ w.heap.size
 block : ∀ k, k < w0.heap.size → b ≠ some k → u0.ownBlock ≠ some k → w.heap[k]? = w0.heap[k]?
 own : u.ownBlock = u0.ownBlock ∨ ∃ g, w0.heap.size ≤ g ∧ u.ownBlock = some g
theorem Asd.refl (b : Option Nat) (w : World) (u : Value) : Asd b w u w u := ⟨rfl, rfl, rfl, Nat.le_refl _, fun _ _ _ _ => rfl, .inl rfl⟩
theorem Asd.quiet {b : Option Nat} {w0 w w' : World} {u0 u : Value} (h : Asd b w0 u0 w u) (hB : Below w.heap.size w w') : Asd b w0 u0 w' u :=
 ⟨hB.os.trans h.os, hB.tape.trans h.tape, hB.output.trans h.output, Nat.le_trans h.size hB.size, fun k hk hb hu => (hB.block k (Nat.lt_of_lt_of_le hk h.size)).trans (h.block k hk hb hu), h.own⟩
theorem Asd.trans {b : Option Nat} {w0 w1 w2 : World} {u0 u1 u2 : Value} (h : Asd b w0 u0 w1 u1) (k : Asd b w1 u1 w2 u2) : Asd b w0 u0 w2 u2 := by
 refine ⟨k.os.trans h.os, k.tape.trans h.tape, k.output.trans h.output, Nat.le_trans h.size k.size, fun i hi hb hu => ?_, ?_⟩
 ·refine (k.block i (Nat.lt_of_lt_of_le hi h.size) hb fun e => ?_).trans (h.block i hi hb hu)
  rcases h.own with h1 | ⟨g, hg, h1⟩
  ·exact hu (h1.symm.trans e)
  ·rw [h1] at e; cases e; omega
 ·rcases k.own with k1 | ⟨g, hg, k1⟩
  ·rcases h.own with h1 | ⟨g, hg, h1⟩
   ·exact .inl (k1.trans h1)
   ·exact .inr ⟨g, hg, k1.trans h1⟩
  ·exact .inr ⟨g, Nat.le_trans h.size hg, k1⟩
theorem Asd.store {b : Nat} {w0 w : World} {u0 u : Value} (h : Asd (some b) w0 u0 w u) (i : Nat) (v : Value) : Asd (some b) w0 u0 (w.setCell ⟨b, i, none⟩ v) u :=
 ⟨h.os, h.tape, h.output, by simpa using h.size, fun k hk hb hu => (Below.heap_setCell _ _ _ _ (fun e => hb (by rw [e]))).trans (h.block k hk hb hu), h.own⟩
theorem Asd.below {b : Option Nat} {B : Nat} {w0 w : World} {u0 u : Value} (h : Asd b w0 u0 w u) (hb : ∀ k, b = some k → B ≤ k) (hu : ∀ k, u0.ownBlock = some k → B ≤ k) (hz : B ≤ w0.heap.size) : Below B w0 w :=
 ⟨h.os, h.tape, h.output, h.size, fun k hk => h.block k (by omega) (fun e => by have := hb k e; omega) (fun e => by have := hu k e; omega)⟩
theorem Asd.belowNil {b : Option Nat} {B : Nat} {w0 w : World} {u : Value} (h : Asd b w0 (.slice none 0 0) w u) (hb : ∀ k, b = some k → B ≤ k) (hz : B ≤ w0.heap.size) : Below B w0 w := h.below hb (fun k e => by cases e) hz
theorem Asd.cell {b : Option Nat} {k i : Nat} {w0 w : World} {u0 u v : Value} (h : Asd b w0 u0 w u) (hk : k < w0.heap.size) (hb : b ≠ some k) (hu : u0.ownBlock ≠ some k) (hc : w0.cell? ⟨k, i, none⟩ = some v) : w.cell? ⟨k, i, none⟩ = some v := by
 rw [← hc]
 simp only [World.cell?, h.block k hk hb hu]
theorem ownI_block {w : World} {B : Nat} {v : Value} {l : List Int} (h : OwnI w B v l) (k : Nat) (e : v.ownBlock = some k) : B ≤ k ∧ k < w.heap.size := World.ownsRow.lt h k e
theorem Asd.keep {b : Option Nat} {B : Nat} {w0 w : World} {u0 u v : Value} {l : List Int} (h : Asd b w0 u0 w u) (ho : OwnI w0 B v l) (hb : ∀ k, v.ownBlock = some k → b ≠ some k) (hu : ∀ k, v.ownBlock = some k → u0.ownBlock ≠ some k) : OwnI w B v l := by
 refine ⟨ho.1, ho.2.imp id ?_⟩
 rintro ⟨g, cap, cur, h1, h2, h3, h4⟩
 have e : v.ownBlock = some g := by rw [h1]; rfl
 exact ⟨g, cap, cur, h1, h2, (h.block g (ownI_block ho g e).2 (hb g e) (hu g e)).trans h3, h4⟩
theorem Asd.at {b : Option Nat} {B : Nat} {w0 w : World} {u0 u : Value} {a : Option Addr} {c : Nat} {l : List Int} (h : Asd b w0 u0 w u) (ho : OwnI w0 B (.slice a l.length c) l) (hb : ∀ k, b = some k → k < B) (hu : ∀ k, u0.ownBlock = some k → k < B) {k : Nat} (hk : k < l.length) :
  ∃ g, a = some ⟨g, 0, none⟩ ∧ g < w.heap.size ∧ w.cell? ⟨g, k, none⟩ = some (.int .i64 l[k]) ∧ l.length ≤ c := by
 obtain ⟨g, e, h1, h2, h3⟩ := own_at ho (Below.refl _ _) hk
 subst e
 have hg := ownI_block ho g rfl
 exact ⟨g, rfl, Nat.lt_of_lt_of_le h1 h.size, h.cell h1 (fun e => by have := hb g e; omega) (fun e => by have := hu g e; omega) h2, h3⟩
theorem pushA {ops : Array Oper} {rest : List Oper} {o : Oper} {a : Act} {Q : Exit → Act → World → Prop} {W : World} {T' : TypeId} {z : Int} (hgd : o.guard = none) (s x : Operand)
  (ho : o.op = .call { callee := .builtin .append, args := #[s, x], argTypes := #[24, 24] }) (B : Nat) (v : Value) (l : List Int) (hs : a.eval s = v) (hown : OwnI W B v l)
  (hx : a.eval x = .slice (some ⟨W.heap.size, 0, none⟩) 1 1) (hn : l.length ≤ 1000000) (hB : B ≤ W.heap.size)
  (h : ∀ g cap w', OwnI w' B (.slice (some ⟨g, 0, none⟩) (l.length + 1) cap) (l ++ [z]) → (∀ b, Asd b W v w' (.slice (some ⟨g, 0, none⟩) (l.length + 1) cap)) → wpList Tryz.prog ops Q rest (a.put o.dst (.slice (some ⟨g, 0, none⟩) (l.length + 1) cap)) w') : wpList Tryz.prog ops Q (o :: rest) a (W.alloc (.cells #[.int .i64 z] T')) := by
 obtain ⟨i0, hi, hz0, hz1, hz2⟩ := info_parts infoInt
 refine wpList_append_lies (W.alloc (.cells #[.int .i64 z] T')) hgd s x _ ho B 3 i0 (.int .i64 0) 1 8 Tryz.underlying24 hi hz0 hz1 hz2 rfl (by decide) v l.length (ic l) hs (World.ownsRow.alloc hown _)
  ⟨W.heap.size, 0, none⟩ 1 1 [.int .i64 z] hx rfl (cell_one_new _ _ _) (by simp [Value.oneCell']) (by decide) (by unfold maxLen; omega) (by omega) (by simp; omega) (W.heap.size + 1) (by simp) fun g cap w' h1 h2 h3 h4 => ?_
 refine h g cap w' ?_ fun b => ?_
 ·unfold OwnI
  rw [ic_snoc, List.length_append]
  exact h1
 ·obtain ⟨k1, k2, k3, k4, k5⟩ := h2
  rw [World.size_alloc] at k4
  refine ⟨k1, k2, k3, by omega, fun k hk _ hu => ?_, ?_⟩
  ·rw [k5 k (by simp; omega) (fun e => hu e.symm)]
   exact Below.heap_alloc W _ k hk
  ·rcases h3 with h3 | h3
   ·exact .inl h3.symm
   ·exact .inr ⟨g, by omega, rfl⟩
end Go.Proofs.YtkbohijlhhpfbaaGreatDoor.Rs
/- The set that awake asks of, in plain numbers. -/
namespace Go.Proofs.YtkbohijlhhpfbaaGreatDoor.Rs
open Ru Xp
def rD : R := { freq := 3, interval := 2, count := 3, uk := 0, us := 0, sec := [], min := [], hour := [], day := [], mday := [], yday := [], weekno := [], month := [], setpos := [], wkst := 0 }
def sD : St := { kind := 3, sec := 63839696400, rule := rD, inn := [(3, 63839955600)], out := [(3, 63839869200)] }
theorem ofD1 : ofE rD 63839696400 738885 = [63839696400] := by
 unfold ofE allE tmsP tms
 simp only [Tm.secs_eq]
 decide +kernel
theorem ofD2 : ofE rD 63839696400 738887 = [63839869200] := by
 unfold ofE allE tmsP tms
 simp only [Tm.secs_eq]
 decide +kernel
theorem ofD3 : ofE rD 63839696400 738889 = [63840042000] := by
 unfold ofE allE tmsP tms
 simp only [Tm.secs_eq]
 decide +kernel
theorem coD1 : costE rD 63839696400 738885 = 2 := by
 unfold costE tmsP tms
 simp only [Tm.secs_eq]
 decide +kernel
theorem coD2 : costE rD 63839696400 738887 = 2 := by
 unfold costE tmsP tms
 simp only [Tm.secs_eq]
 decide +kernel
theorem coD3 : costE rD 63839696400 738889 = 2 := by
 unfold costE tmsP tms
 simp only [Tm.secs_eq]
 decide +kernel
theorem chkD : chkS sD = 0 := by decide +kernel
theorem lastD (x y bud : Int) (once : Bool) : lastP (pS sD x y bud once) = 3652058 := by
 show Pd.last 3 0 = 3652058
 decide +kernel
theorem beginD (x y bud : Int) (once : Bool) : begin (pS sD x y bud once) = some 738885 := by
 unfold begin
 rw [if_pos (show 0 < (pS sD x y bud once).r.count from (by decide : (0 : Int) < 3))]
 show some (Pd.index 3 0 63839696400) = _
 decide +kernel
theorem frD1 : fr rD 738885 = 63839664000 := by decide +kernel
theorem frD2 : fr rD 738887 = 63839836800 := by decide +kernel
theorem frD3 : fr rD 738889 = 63840009600 := by decide +kernel
theorem walkD1 : walk (pS sD 0 315537897600 100 false) = some (6, [63839696400, 63839869200, 63840042000]) := by
 rw [walk_some (beginD _ _ _ _)]
 have i1 : inner (pS sD 0 315537897600 100 false) (ofE rD 63839696400 738885) 3 [] = (false, 2, [63839696400]) := by rw [ofD1]; decide +kernel
 have i2 : inner (pS sD 0 315537897600 100 false) (ofE rD 63839696400 738887) 2 [63839696400] = (false, 1, [63839696400, 63839869200]) := by rw [ofD2]; decide +kernel
 have i3 : inner (pS sD 0 315537897600 100 false) (ofE rD 63839696400 738889) 1 [63839696400, 63839869200] = (true, 0, [63839696400, 63839869200, 63840042000]) := by rw [ofD3]; decide +kernel
 show runF _ 738885 3 0 [] = _
 rw [runF_next (by decide) (by rw [lastD]; decide) (by show ¬ (315537897600 ≤ fr rD 738885 ∨ 315537897599 < fr rD 738885); rw [frD1]; decide) (by show ¬ 100 < 0 + costE rD 63839696400 738885; rw [coD1]; decide) i1]
 show runF _ 738887 2 (0 + costE rD 63839696400 738885) [63839696400] = _
 rw [coD1, runF_next (by decide) (by rw [lastD]; decide) (by show ¬ (315537897600 ≤ fr rD 738887 ∨ 315537897599 < fr rD 738887); rw [frD2]; decide) (by show ¬ 100 < 0 + 2 + costE rD 63839696400 738887; rw [coD2]; decide) i2]
 show runF _ 738889 1 (0 + 2 + costE rD 63839696400 738887) [63839696400, 63839869200] = _
 rw [coD2, runF_stop (by rw [lastD]; decide) (by show ¬ (315537897600 ≤ fr rD 738889 ∨ 315537897599 < fr rD 738889); rw [frD3]; decide) (by show ¬ 100 < 0 + 2 + 2 + costE rD 63839696400 738889; rw [coD3]; decide) i3]
 show some (0 + 2 + 2 + costE rD 63839696400 738889, _) = _
 rw [coD3]; rfl
theorem winD1 : winF sD 0 315537897600 100 = ([63839696400, 63839955600, 63840042000], 6, 0) := by
 unfold winF
 rw [if_neg (by rw [chkD]; decide), if_neg (by decide), walkD1]
 decide +kernel
theorem walkD2 : walk (pS sD 0 315537897600 5 false) = none := by
 rw [walk_some (beginD _ _ _ _)]
 have i1 : inner (pS sD 0 315537897600 5 false) (ofE rD 63839696400 738885) 3 [] = (false, 2, [63839696400]) := by rw [ofD1]; decide +kernel
 have i2 : inner (pS sD 0 315537897600 5 false) (ofE rD 63839696400 738887) 2 [63839696400] = (false, 1, [63839696400, 63839869200]) := by rw [ofD2]; decide +kernel
 show runF _ 738885 3 0 [] = _
 rw [runF_next (by decide) (by rw [lastD]; decide) (by show ¬ (315537897600 ≤ fr rD 738885 ∨ 315537897599 < fr rD 738885); rw [frD1]; decide) (by show ¬ 5 < 0 + costE rD 63839696400 738885; rw [coD1]; decide) i1]
 show runF _ 738887 2 (0 + costE rD 63839696400 738885) [63839696400] = _
 rw [coD1, runF_next (by decide) (by rw [lastD]; decide) (by show ¬ (315537897600 ≤ fr rD 738887 ∨ 315537897599 < fr rD 738887); rw [frD2]; decide) (by show ¬ 5 < 0 + 2 + costE rD 63839696400 738887; rw [coD2]; decide) i2]
 show runF _ 738889 1 (0 + 2 + costE rD 63839696400 738887) [63839696400, 63839869200] = _
 rw [coD2, runF_spent (by rw [lastD]; decide) (by show ¬ (315537897600 ≤ fr rD 738889 ∨ 315537897599 < fr rD 738889); rw [frD3]; decide) (by show 5 < 0 + 2 + 2 + costE rD 63839696400 738889; rw [coD3]; decide)]
theorem winD2 : winF sD 0 315537897600 5 = ([], 0, 13) := by
 unfold winF
 rw [if_neg (by rw [chkD]; decide), if_neg (by decide), walkD2]
theorem bestD1 : best sD 63839696400 = 63839955600 := by decide +kernel
theorem bestD2 : best sD 63840042000 = 315537897600 := by decide +kernel
theorem walkD3 : walk (pS sD (63839696400 + 1) 63839955600 100 true) = some (4, [63839869200]) := by
 rw [walk_some (beginD _ _ _ _)]
 have i1 : inner (pS sD (63839696400 + 1) 63839955600 100 true) (ofE rD 63839696400 738885) 3 [] = (false, 2, []) := by rw [ofD1]; decide +kernel
 have i2 : inner (pS sD (63839696400 + 1) 63839955600 100 true) (ofE rD 63839696400 738887) 2 [] = (false, 1, [63839869200]) := by rw [ofD2]; decide +kernel
 show runF _ 738885 3 0 [] = _
 rw [runF_next (by decide) (by rw [lastD]; decide) (by show ¬ (63839955600 ≤ fr rD 738885 ∨ 315537897599 < fr rD 738885); rw [frD1]; decide) (by show ¬ 100 < 0 + costE rD 63839696400 738885; rw [coD1]; decide) i1]
 show runF _ 738887 2 (0 + costE rD 63839696400 738885) [] = _
 rw [coD1, runF_next (by decide) (by rw [lastD]; decide) (by show ¬ (63839955600 ≤ fr rD 738887 ∨ 315537897599 < fr rD 738887); rw [frD2]; decide) (by show ¬ 100 < 0 + 2 + costE rD 63839696400 738887; rw [coD2]; decide) i2]
 show runF _ 738889 1 (0 + 2 + costE rD 63839696400 738887) [63839869200] = _
 rw [coD2, runF_out (by rw [lastD]; decide) (by show 63839955600 ≤ fr rD 738889 ∨ 315537897599 < fr rD 738889; rw [frD3]; decide)]
 rfl
theorem nextD1 : nextF sD 63839696400 100 = (63839955600, true, 0) := by
 unfold nextF
 rw [if_neg (by rw [chkD]; decide), if_neg (by decide), bestD1, walkD3]
 show endN sD 63839696400 [63839869200] = _
 unfold endN
 rw [bestD1]
 decide +kernel
theorem walkD4 : walk (pS sD (63840042000 + 1) 315537897600 100 true) = some (6, []) := by
 rw [walk_some (beginD _ _ _ _)]
 have i1 : inner (pS sD (63840042000 + 1) 315537897600 100 true) (ofE rD 63839696400 738885) 3 [] = (false, 2, []) := by rw [ofD1]; decide +kernel
 have i2 : inner (pS sD (63840042000 + 1) 315537897600 100 true) (ofE rD 63839696400 738887) 2 [] = (false, 1, []) := by rw [ofD2]; decide +kernel
 have i3 : inner (pS sD (63840042000 + 1) 315537897600 100 true) (ofE rD 63839696400 738889) 1 [] = (true, 0, []) := by rw [ofD3]; decide +kernel
 show runF _ 738885 3 0 [] = _
 rw [runF_next (by decide) (by rw [lastD]; decide) (by show ¬ (315537897600 ≤ fr rD 738885 ∨ 315537897599 < fr rD 738885); rw [frD1]; decide) (by show ¬ 100 < 0 + costE rD 63839696400 738885; rw [coD1]; decide) i1]
 show runF _ 738887 2 (0 + costE rD 63839696400 738885) [] = _
 rw [coD1, runF_next (by decide) (by rw [lastD]; decide) (by show ¬ (315537897600 ≤ fr rD 738887 ∨ 315537897599 < fr rD 738887); rw [frD2]; decide) (by show ¬ 100 < 0 + 2 + costE rD 63839696400 738887; rw [coD2]; decide) i2]
 show runF _ 738889 1 (0 + 2 + costE rD 63839696400 738887) [] = _
 rw [coD2, runF_stop (by rw [lastD]; decide) (by show ¬ (315537897600 ≤ fr rD 738889 ∨ 315537897599 < fr rD 738889); rw [frD3]; decide) (by show ¬ 100 < 0 + 2 + 2 + costE rD 63839696400 738889; rw [coD3]; decide) i3]
 show some (0 + 2 + 2 + costE rD 63839696400 738889, _) = _
 rw [coD3]; rfl
theorem nextD2 : nextF sD 63840042000 100 = (0, false, 0) := by
 unfold nextF
 rw [if_neg (by rw [chkD]; decide), if_neg (by decide), bestD2, walkD4]
 show endN sD 63840042000 [] = _
 unfold endN
 rw [bestD2]
 decide +kernel
theorem walkD5 : walk (pS sD 63840042000 (63840042000 + 1) 100 false) = some (6, [63840042000]) := by
 rw [walk_some (beginD _ _ _ _)]
 have i1 : inner (pS sD 63840042000 (63840042000 + 1) 100 false) (ofE rD 63839696400 738885) 3 [] = (false, 2, []) := by rw [ofD1]; decide +kernel
 have i2 : inner (pS sD 63840042000 (63840042000 + 1) 100 false) (ofE rD 63839696400 738887) 2 [] = (false, 1, []) := by rw [ofD2]; decide +kernel
 have i3 : inner (pS sD 63840042000 (63840042000 + 1) 100 false) (ofE rD 63839696400 738889) 1 [] = (true, 0, [63840042000]) := by rw [ofD3]; decide +kernel
 show runF _ 738885 3 0 [] = _
 rw [runF_next (by decide) (by rw [lastD]; decide) (by show ¬ (63840042000 + 1 ≤ fr rD 738885 ∨ 315537897599 < fr rD 738885); rw [frD1]; decide) (by show ¬ 100 < 0 + costE rD 63839696400 738885; rw [coD1]; decide) i1]
 show runF _ 738887 2 (0 + costE rD 63839696400 738885) [] = _
 rw [coD1, runF_next (by decide) (by rw [lastD]; decide) (by show ¬ (63840042000 + 1 ≤ fr rD 738887 ∨ 315537897599 < fr rD 738887); rw [frD2]; decide) (by show ¬ 100 < 0 + 2 + costE rD 63839696400 738887; rw [coD2]; decide) i2]
 show runF _ 738889 1 (0 + 2 + costE rD 63839696400 738887) [] = _
 rw [coD2, runF_stop (by rw [lastD]; decide) (by show ¬ (63840042000 + 1 ≤ fr rD 738889 ∨ 315537897599 < fr rD 738889); rw [frD3]; decide) (by show ¬ 100 < 0 + 2 + 2 + costE rD 63839696400 738889; rw [coD3]; decide) i3]
 show some (0 + 2 + 2 + costE rD 63839696400 738889, _) = _
 rw [coD3]; rfl
theorem hasD : hasF sD 63840042000 100 = (true, 0) := by
 have e : winF sD 63840042000 (63840042000 + 1) 100 = ([63840042000], 6, 0) := by
  unfold winF
  rw [if_neg (by rw [chkD]; decide), if_neg (by decide), walkD5]
  decide +kernel
 unfold hasF
 rw [if_neg (by rw [chkD]; decide), if_neg (by decide), e]
 rfl
def rN : R := { freq := 0, interval := 0, count := 0, uk := 0, us := 0, sec := [], min := [], hour := [], day := [], mday := [], yday := [], weekno := [], month := [], setpos := [], wkst := 0 }
def sN : St := { kind := 0, sec := 0, rule := rN, inn := [], out := [] }
theorem chkN : chkS sN = 11 := by decide +kernel
end Go.Proofs.YtkbohijlhhpfbaaGreatDoor.Rs
/- The law's dates: values, day, Small. -/
namespace Go.Proofs.YtkbohijlhhpfbaaGreatDoor.Rs
open Go.RowKit Ru Ut Cw Ra Xp
def vc : List (Int × Int) → List Value
 | [] => []
 | d :: l => .int .u8 d.1 :: .int .i64 d.2 :: vc l
theorem vc_append : ∀ l m, vc (l ++ m) = vc l ++ vc m
 | [], _ => rfl
 | d :: l, m => by simp only [List.cons_append, vc, vc_append l m]
theorem vc_at : ∀ (l : List (Int × Int)) (i : Nat) (h : i < l.length), (vc l)[i * 2]? = some (.int .u8 l[i].1) ∧ (vc l)[i * 2 + 1]? = some (.int .i64 l[i].2)
 | d :: l, 0, _ => by simp [vc]
 | d :: l, i + 1, h => by
  have := vc_at l i (by simpa using h)
  simp only [vc, List.getElem_cons_succ]
  rw [show (i + 1) * 2 = i * 2 + 1 + 1 by omega, show (i * 2 + 1 + 1) + 1 = (i * 2 + 1) + 1 + 1 by omega]
  simpa using this
def OwnV (w : World) (B : Nat) (v : Value) (l : List (Int × Int)) : Prop := w.ownsRow B 30 2 v l.length (vc l)
theorem OwnV.nil (w : World) (B : Nat) : OwnV w B (.slice none 0 0) [] := World.ownsRow_nil _ _ _ _
theorem OwnV.below {w W : World} {B : Nat} {v : Value} {l : List (Int × Int)} (h : OwnV w B v l) (hB : Below w.heap.size w W) : OwnV W B v l := ownsRow_below h hB
theorem OwnV.vals {w : World} {B : Nat} {v : Value} {l : List (Int × Int)} (h : OwnV w B v l) : Vals w v l := by
 by_cases h0 : l.length = 0
 ·obtain rfl : l = [] := List.length_eq_zero_iff.1 h0
  refine .inl ⟨rfl, ?_⟩
  rcases h.2 with ⟨rfl, _⟩ | ⟨g, cap, cur, rfl, _⟩
  ·exact ⟨none, 0, rfl, fun _ => rfl⟩
  ·exact ⟨_, cap, rfl, fun h => by cases h⟩
 ·obtain ⟨g, cap, rfl, hb, hg, hc, _, hcell⟩ := ownsRow_pos h (by omega)
  refine .inr ⟨by omega, g, 0, cap, rfl, hg, hc, fun i hi => ?_⟩
  have hd := vc_at l i hi
  have h1 := hcell _ _ hd.1
  have h2 := hcell _ _ hd.2
  rw [Nat.zero_add]
  exact ⟨h1, h2⟩
theorem OwnV.slice {w : World} {B : Nat} {v : Value} {l : List (Int × Int)} (h : OwnV w B v l) : ∃ a c, v = .slice a l.length c := by
 rcases h.2 with ⟨rfl, h0⟩ | ⟨g, cap, cur, rfl, _⟩
 ·exact ⟨none, 0, by rw [h0]⟩
 ·exact ⟨_, _, rfl⟩
def GivesV (w : World) (l : List (Int × Int)) (e : Ending) (w' : World) : Prop := ∃ v, e = .returned v ∧ OwnV w' w.heap.size v l ∧ Below w.heap.size w w'
theorem infoVal : (Tryz.prog.info? 30).map (fun i => (i.zero, i.size, i.bytes)) = some (some (.agg #[.int .u8 0, .int .i64 0]), 2, 16) := by kernel_rfl
theorem push_val {ops : Array Oper} {rest : List Oper} {o : Oper} {a : Act} {Q : Exit → Act → World → Prop} {W : World} {T' : TypeId} {p q : Int} (hgd : o.guard = none) (s x : Operand)
  (ho : o.op = .call { callee := .builtin .append, args := #[s, x], argTypes := #[46, 46] }) (B : Nat) (v : Value) (l : List (Int × Int)) (hs : a.eval s = v) (hown : OwnV W B v l)
  (hx : a.eval x = .slice (some ⟨W.heap.size, 0, none⟩) 1 1) (hn : l.length ≤ 1000000) (hB : B ≤ W.heap.size)
  (h : ∀ v' w', OwnV w' B v' (l ++ [(p, q)]) → Below B W w' → wpList Tryz.prog ops Q rest (a.put o.dst v') w') : wpList Tryz.prog ops Q (o :: rest) a (W.alloc (.cells #[.int .u8 p, .int .i64 q] T')) := by
 obtain ⟨i0, hi, hz0, hz1, hz2⟩ := info_parts infoVal
 refine wpList_append_own (W.alloc (.cells #[.int .u8 p, .int .i64 q] T')) hgd s x _ ho B 30 i0 _ 2 16 Tryz.underlying46 hi hz0 hz1 hz2 rfl (by decide) v l.length (vc l) hs (World.ownsRow.alloc hown _)
  ⟨W.heap.size, 0, none⟩ 1 1 [.int .u8 p, .int .i64 q] hx rfl ?_ (by simp [Value.oneCell']) (by unfold maxLen; omega) (by omega) (by simp; omega) fun v' w' h1 h2 _ => ?_
 ·intro j u hj
  match j, hj with
  | 0, hj => simp at hj; subst hj; simp [Addr.add]
  | 1, hj => simp at hj; subst hj; simp [Addr.add]
 refine h v' w' ?_ (((Below.refl B W).alloc hB _).grown h2 (by simp; omega) fun k hk => (hown.lt k hk).1)
 unfold OwnV
 rw [vc_append, List.length_append]
 exact h1
set_option maxHeartbeats 1000000 in
theorem values_any {w : World} {v : Value} {l : List (Int × Int)} (hl : Vals w v l) (hn : l.length ≤ 1000) : Calls Tryz.prog 46 #[v] w (GivesV w l) := by
 obtain ⟨a, c, hv⟩ := hl.slice
 have hA := Lib.hid (fun W (hB : Below w.heap.size w W) k (hk : k < l.length) => hl.at hv hB hk)
 subst hv
 clear hl
 go_enter Tryz.func46, Tryz.ntmps46
 go_wp2
 go_loopw [3, 4] (fun u i wr => ∃ k : Nat, k ≤ l.length ∧ i = .int .i64 k ∧ Hid (OwnV wr w.heap.size u (l.take k)) ∧ Hid (Below w.heap.size w wr)) (fun _ i _ => l.length - (intOf i).toNat)
 case atStart => exact ⟨0, by omega, rfl, Lib.hid (OwnV.nil _ _), Lib.hid (Below.refl _ _)⟩
 case round =>
  obtain ⟨k, hk0, rfl, hown, hB⟩ := hrel
  by_cases hk : k < l.length
  ·obtain ⟨b, o, rfl, hbb, c1, c2, hcap⟩ := hA.out wr hB.out k hk
   have ht := List.take_succ_eq_append_getElem hk
   have hlen : (l.take k).length ≤ 1000000 := by rw [List.length_take]; omega
   generalize l[k] = m at *
   obtain ⟨p, q⟩ := m
   simp only at c1 c2
   replace ht := Lib.hid ht
   replace hlen := Lib.hid hlen
   go_wp2_with (at_builtin; refine push_val rfl _ _ rfl w.heap.size _ (l.take k) rfl hown.out rfl hlen.out hB.out.size ?_; intro v5 w5 hown5 hB5)
   go_roundw
   case rel => exact ⟨k + 1, by omega, by go_num, Lib.hid (by rw [ht.out]; exact hown5), Lib.hid (hB.out.trans hB5)⟩
   case measure => simp [intOf]; omega
  ·have ht := Lib.hid (show l.take k = l from List.take_of_length_le (by omega))
   go_wp2
   go_ret
   exact ⟨_, rfl, by rw [← ht.out]; exact hown.out, hB.out⟩
theorem day_any (w : World) (n : Int) (h0 : 0 ≤ n) (h1 : n ≤ 31) : Calls Tryz.prog 45 #[.int .i64 n] w fun e w' => e = .returned (.agg #[.int .u8 3, .int .i64 ((738884 + n) * 86400 + 32400)]) ∧ Below w.heap.size w w' := by
 have n1 : ((738884 + n) * 86400 + 32400 : Int) = (738884 + n) * 86400 + 32400 := rfl
 go_enter Tryz.func45, Tryz.ntmps45
 go_wp2
 refine bodyPost_ret (v := .agg #[.int .u8 3, .int .i64 ((738884 + n) * 86400 + 32400)]) (by simp [results, Tryz.results45, go_sem]) rfl ⟨rfl, by (repeat' (first|assumption|exact Below.refl _ _|apply Below.next_alloc|apply Below.drew|(apply Below.next;rotate_left;assumption)))⟩
end Go.Proofs.YtkbohijlhhpfbaaGreatDoor.Rs
/- errandlaw21's Own: its lists are rows of its own (printed by gen_ownn.py). -/
namespace Go.Proofs.YtkbohijlhhpfbaaGreatDoor.Ra
open Go.RowKit Ru Ut Cw
theorem ownsRow_less {W : World} {B B' E sz : Nat} {v : Value} {n : Nat} {xs : List Value} (h : W.ownsRow B E sz v n xs) (hb : B' ≤ B) : W.ownsRow B' E sz v n xs := by
 refine ⟨h.1, h.2.imp id ?_⟩
 rintro ⟨g, cap, cur, h1, h2, h3, h4⟩
 exact ⟨g, cap, cur, h1, Nat.le_trans hb h2, h3, h4⟩
theorem OwnI.less {W : World} {B B' : Nat} {v : Value} {l : List Int} (h : OwnI W B v l) (hb : B' ≤ B) : OwnI W B' v l := ownsRow_less h hb
theorem OwnD.less {W : World} {B B' : Nat} {v : Value} {l : List (Int × Int)} (h : OwnD W B v l) (hb : B' ≤ B) : OwnD W B' v l := ownsRow_less h hb
def ListsN (W : World) (B : Nat) (r : R) (sv : Nat → Value) : Prop := (∀ q, 4 ≤ q → q ≤ 12 → q ≠ 7 → OwnI W B (sv q) (lst r q)) ∧ OwnD W B (sv 7) r.day
theorem ListsN.lists {W : World} {B : Nat} {r : R} {sv : Nat → Value} (h : ListsN W B r sv) : Lists W r sv := ⟨fun q h4 h12 h7 => (h.1 q h4 h12 h7).ints, h.2.days⟩
theorem ListsN.below {W W2 : World} {B : Nat} {r : R} {sv : Nat → Value} (h : ListsN W B r sv) (hB : Below W.heap.size W W2) : ListsN W2 B r sv := ⟨fun q h4 h12 h7 => (h.1 q h4 h12 h7).below hB, h.2.below hB⟩
theorem ListsN.moved {W W2 : World} {B m : Nat} {r : R} {sv : Nat → Value} (h : ListsN W B r sv) (hk : ∀ k, k ≠ m → W2.heap[k]? = W.heap[k]?) (hm : m < B) : ListsN W2 B r sv := ⟨fun q h4 h12 h7 => (h.1 q h4 h12 h7).moved hk hm, h.2.moved hk hm⟩
def GivesN (w : World) (r : R) (e : Ending) (w' : World) : Prop := ∃ sv, e = .returned (ruleV r sv) ∧ ListsN w' w.heap.size r sv ∧ Below w.heap.size w w'
set_option maxHeartbeats 16000000 in
set_option maxRecDepth 100000 in
theorem ownN_any (w : World) (r : R) (sv : Nat → Value) (hL : Lists w r sv) (hn : Short r) : Calls Tryz.prog 11 #[.agg (ruleC r sv)] w (GivesN w r) := by
 have F4 : ∀ W, Below w.heap.size w W → Calls Tryz.prog 34 #[sv 4] W (Gives W r.sec) := fun W hB => ints_any (hL.1 4 (by decide) (by decide) (by decide) |>.below hB) (hn.1 4 (by decide) (by decide) (by decide))
 have F5 : ∀ W, Below w.heap.size w W → Calls Tryz.prog 34 #[sv 5] W (Gives W r.min) := fun W hB => ints_any (hL.1 5 (by decide) (by decide) (by decide) |>.below hB) (hn.1 5 (by decide) (by decide) (by decide))
 have F6 : ∀ W, Below w.heap.size w W → Calls Tryz.prog 34 #[sv 6] W (Gives W r.hour) := fun W hB => ints_any (hL.1 6 (by decide) (by decide) (by decide) |>.below hB) (hn.1 6 (by decide) (by decide) (by decide))
 have F7 : ∀ W, Below w.heap.size w W → Calls Tryz.prog 35 #[sv 7] W (GivesD W r.day) := fun W hB => ownDays_any (hL.2.below hB) hn.2
 have F8 : ∀ W, Below w.heap.size w W → Calls Tryz.prog 34 #[sv 8] W (Gives W r.mday) := fun W hB => ints_any (hL.1 8 (by decide) (by decide) (by decide) |>.below hB) (hn.1 8 (by decide) (by decide) (by decide))
 have F9 : ∀ W, Below w.heap.size w W → Calls Tryz.prog 34 #[sv 9] W (Gives W r.yday) := fun W hB => ints_any (hL.1 9 (by decide) (by decide) (by decide) |>.below hB) (hn.1 9 (by decide) (by decide) (by decide))
 have F10 : ∀ W, Below w.heap.size w W → Calls Tryz.prog 34 #[sv 10] W (Gives W r.weekno) := fun W hB => ints_any (hL.1 10 (by decide) (by decide) (by decide) |>.below hB) (hn.1 10 (by decide) (by decide) (by decide))
 have F11 : ∀ W, Below w.heap.size w W → Calls Tryz.prog 34 #[sv 11] W (Gives W r.month) := fun W hB => ints_any (hL.1 11 (by decide) (by decide) (by decide) |>.below hB) (hn.1 11 (by decide) (by decide) (by decide))
 have F12 : ∀ W, Below w.heap.size w W → Calls Tryz.prog 34 #[sv 12] W (Gives W r.setpos) := fun W hB => ints_any (hL.1 12 (by decide) (by decide) (by decide) |>.below hB) (hn.1 12 (by decide) (by decide) (by decide))
 replace F4 := Lib.hid F4
 replace F5 := Lib.hid F5
 replace F6 := Lib.hid F6
 replace F7 := Lib.hid F7
 replace F8 := Lib.hid F8
 replace F9 := Lib.hid F9
 replace F10 := Lib.hid F10
 replace F11 := Lib.hid F11
 replace F12 := Lib.hid F12
 clear hL hn
 unfold ruleC
 go_enter Tryz.func11, Tryz.ntmps11
 go_wp2
 have K0 : ((w.alloc (.cells #[.int .u8 r.freq, .int .i64 r.interval, .int .i64 r.count, .int .u8 r.uk, .int .i64 r.us, sv 4, sv 5, sv 6, sv 7, sv 8, sv 9, sv 10, sv 11, sv 12, .int .i64 r.wkst] 27)).alloc (.cells #[.int .u8 0, .int .i64 0, .int .i64 0, .int .u8 0, .int .i64 0, .slice none 0 0, .slice none 0 0, .slice none 0 0, .slice none 0 0, .slice none 0 0, .slice none 0 0, .slice none 0 0, .slice none 0 0, .slice none 0 0, .int .i64 0] 33)).cell? ⟨w.heap.size, 0, none⟩ = some (.int .u8 r.freq) ∧ ((w.alloc (.cells #[.int .u8 r.freq, .int .i64 r.interval, .int .i64 r.count, .int .u8 r.uk, .int .i64 r.us, sv 4, sv 5, sv 6, sv 7, sv 8, sv 9, sv 10, sv 11, sv 12, .int .i64 r.wkst] 27)).alloc (.cells #[.int .u8 0, .int .i64 0, .int .i64 0, .int .u8 0, .int .i64 0, .slice none 0 0, .slice none 0 0, .slice none 0 0, .slice none 0 0, .slice none 0 0, .slice none 0 0, .slice none 0 0, .slice none 0 0, .slice none 0 0, .int .i64 0] 33)).cell? ⟨w.heap.size, 1, none⟩ = some (.int .i64 r.interval) ∧ ((w.alloc (.cells #[.int .u8 r.freq, .int .i64 r.interval, .int .i64 r.count, .int .u8 r.uk, .int .i64 r.us, sv 4, sv 5, sv 6, sv 7, sv 8, sv 9, sv 10, sv 11, sv 12, .int .i64 r.wkst] 27)).alloc (.cells #[.int .u8 0, .int .i64 0, .int .i64 0, .int .u8 0, .int .i64 0, .slice none 0 0, .slice none 0 0, .slice none 0 0, .slice none 0 0, .slice none 0 0, .slice none 0 0, .slice none 0 0, .slice none 0 0, .slice none 0 0, .int .i64 0] 33)).cell? ⟨w.heap.size, 2, none⟩ = some (.int .i64 r.count) ∧ ((w.alloc (.cells #[.int .u8 r.freq, .int .i64 r.interval, .int .i64 r.count, .int .u8 r.uk, .int .i64 r.us, sv 4, sv 5, sv 6, sv 7, sv 8, sv 9, sv 10, sv 11, sv 12, .int .i64 r.wkst] 27)).alloc (.cells #[.int .u8 0, .int .i64 0, .int .i64 0, .int .u8 0, .int .i64 0, .slice none 0 0, .slice none 0 0, .slice none 0 0, .slice none 0 0, .slice none 0 0, .slice none 0 0, .slice none 0 0, .slice none 0 0, .slice none 0 0, .int .i64 0] 33)).cell? ⟨w.heap.size, 3, none⟩ = some (.int .u8 r.uk) ∧ ((w.alloc (.cells #[.int .u8 r.freq, .int .i64 r.interval, .int .i64 r.count, .int .u8 r.uk, .int .i64 r.us, sv 4, sv 5, sv 6, sv 7, sv 8, sv 9, sv 10, sv 11, sv 12, .int .i64 r.wkst] 27)).alloc (.cells #[.int .u8 0, .int .i64 0, .int .i64 0, .int .u8 0, .int .i64 0, .slice none 0 0, .slice none 0 0, .slice none 0 0, .slice none 0 0, .slice none 0 0, .slice none 0 0, .slice none 0 0, .slice none 0 0, .slice none 0 0, .int .i64 0] 33)).cell? ⟨w.heap.size, 4, none⟩ = some (.int .i64 r.us) ∧ ((w.alloc (.cells #[.int .u8 r.freq, .int .i64 r.interval, .int .i64 r.count, .int .u8 r.uk, .int .i64 r.us, sv 4, sv 5, sv 6, sv 7, sv 8, sv 9, sv 10, sv 11, sv 12, .int .i64 r.wkst] 27)).alloc (.cells #[.int .u8 0, .int .i64 0, .int .i64 0, .int .u8 0, .int .i64 0, .slice none 0 0, .slice none 0 0, .slice none 0 0, .slice none 0 0, .slice none 0 0, .slice none 0 0, .slice none 0 0, .slice none 0 0, .slice none 0 0, .int .i64 0] 33)).cell? ⟨w.heap.size, 5, none⟩ = some (sv 4) ∧ ((w.alloc (.cells #[.int .u8 r.freq, .int .i64 r.interval, .int .i64 r.count, .int .u8 r.uk, .int .i64 r.us, sv 4, sv 5, sv 6, sv 7, sv 8, sv 9, sv 10, sv 11, sv 12, .int .i64 r.wkst] 27)).alloc (.cells #[.int .u8 0, .int .i64 0, .int .i64 0, .int .u8 0, .int .i64 0, .slice none 0 0, .slice none 0 0, .slice none 0 0, .slice none 0 0, .slice none 0 0, .slice none 0 0, .slice none 0 0, .slice none 0 0, .slice none 0 0, .int .i64 0] 33)).cell? ⟨w.heap.size, 6, none⟩ = some (sv 5) ∧ ((w.alloc (.cells #[.int .u8 r.freq, .int .i64 r.interval, .int .i64 r.count, .int .u8 r.uk, .int .i64 r.us, sv 4, sv 5, sv 6, sv 7, sv 8, sv 9, sv 10, sv 11, sv 12, .int .i64 r.wkst] 27)).alloc (.cells #[.int .u8 0, .int .i64 0, .int .i64 0, .int .u8 0, .int .i64 0, .slice none 0 0, .slice none 0 0, .slice none 0 0, .slice none 0 0, .slice none 0 0, .slice none 0 0, .slice none 0 0, .slice none 0 0, .slice none 0 0, .int .i64 0] 33)).cell? ⟨w.heap.size, 7, none⟩ = some (sv 6) ∧ ((w.alloc (.cells #[.int .u8 r.freq, .int .i64 r.interval, .int .i64 r.count, .int .u8 r.uk, .int .i64 r.us, sv 4, sv 5, sv 6, sv 7, sv 8, sv 9, sv 10, sv 11, sv 12, .int .i64 r.wkst] 27)).alloc (.cells #[.int .u8 0, .int .i64 0, .int .i64 0, .int .u8 0, .int .i64 0, .slice none 0 0, .slice none 0 0, .slice none 0 0, .slice none 0 0, .slice none 0 0, .slice none 0 0, .slice none 0 0, .slice none 0 0, .slice none 0 0, .int .i64 0] 33)).cell? ⟨w.heap.size, 8, none⟩ = some (sv 7) ∧ ((w.alloc (.cells #[.int .u8 r.freq, .int .i64 r.interval, .int .i64 r.count, .int .u8 r.uk, .int .i64 r.us, sv 4, sv 5, sv 6, sv 7, sv 8, sv 9, sv 10, sv 11, sv 12, .int .i64 r.wkst] 27)).alloc (.cells #[.int .u8 0, .int .i64 0, .int .i64 0, .int .u8 0, .int .i64 0, .slice none 0 0, .slice none 0 0, .slice none 0 0, .slice none 0 0, .slice none 0 0, .slice none 0 0, .slice none 0 0, .slice none 0 0, .slice none 0 0, .int .i64 0] 33)).cell? ⟨w.heap.size, 9, none⟩ = some (sv 8) ∧ ((w.alloc (.cells #[.int .u8 r.freq, .int .i64 r.interval, .int .i64 r.count, .int .u8 r.uk, .int .i64 r.us, sv 4, sv 5, sv 6, sv 7, sv 8, sv 9, sv 10, sv 11, sv 12, .int .i64 r.wkst] 27)).alloc (.cells #[.int .u8 0, .int .i64 0, .int .i64 0, .int .u8 0, .int .i64 0, .slice none 0 0, .slice none 0 0, .slice none 0 0, .slice none 0 0, .slice none 0 0, .slice none 0 0, .slice none 0 0, .slice none 0 0, .slice none 0 0, .int .i64 0] 33)).cell? ⟨w.heap.size, 10, none⟩ = some (sv 9) ∧ ((w.alloc (.cells #[.int .u8 r.freq, .int .i64 r.interval, .int .i64 r.count, .int .u8 r.uk, .int .i64 r.us, sv 4, sv 5, sv 6, sv 7, sv 8, sv 9, sv 10, sv 11, sv 12, .int .i64 r.wkst] 27)).alloc (.cells #[.int .u8 0, .int .i64 0, .int .i64 0, .int .u8 0, .int .i64 0, .slice none 0 0, .slice none 0 0, .slice none 0 0, .slice none 0 0, .slice none 0 0, .slice none 0 0, .slice none 0 0, .slice none 0 0, .slice none 0 0, .int .i64 0] 33)).cell? ⟨w.heap.size, 11, none⟩ = some (sv 10) ∧ ((w.alloc (.cells #[.int .u8 r.freq, .int .i64 r.interval, .int .i64 r.count, .int .u8 r.uk, .int .i64 r.us, sv 4, sv 5, sv 6, sv 7, sv 8, sv 9, sv 10, sv 11, sv 12, .int .i64 r.wkst] 27)).alloc (.cells #[.int .u8 0, .int .i64 0, .int .i64 0, .int .u8 0, .int .i64 0, .slice none 0 0, .slice none 0 0, .slice none 0 0, .slice none 0 0, .slice none 0 0, .slice none 0 0, .slice none 0 0, .slice none 0 0, .slice none 0 0, .int .i64 0] 33)).cell? ⟨w.heap.size, 12, none⟩ = some (sv 11) ∧ ((w.alloc (.cells #[.int .u8 r.freq, .int .i64 r.interval, .int .i64 r.count, .int .u8 r.uk, .int .i64 r.us, sv 4, sv 5, sv 6, sv 7, sv 8, sv 9, sv 10, sv 11, sv 12, .int .i64 r.wkst] 27)).alloc (.cells #[.int .u8 0, .int .i64 0, .int .i64 0, .int .u8 0, .int .i64 0, .slice none 0 0, .slice none 0 0, .slice none 0 0, .slice none 0 0, .slice none 0 0, .slice none 0 0, .slice none 0 0, .slice none 0 0, .slice none 0 0, .int .i64 0] 33)).cell? ⟨w.heap.size, 13, none⟩ = some (sv 12) ∧ ((w.alloc (.cells #[.int .u8 r.freq, .int .i64 r.interval, .int .i64 r.count, .int .u8 r.uk, .int .i64 r.us, sv 4, sv 5, sv 6, sv 7, sv 8, sv 9, sv 10, sv 11, sv 12, .int .i64 r.wkst] 27)).alloc (.cells #[.int .u8 0, .int .i64 0, .int .i64 0, .int .u8 0, .int .i64 0, .slice none 0 0, .slice none 0 0, .slice none 0 0, .slice none 0 0, .slice none 0 0, .slice none 0 0, .slice none 0 0, .slice none 0 0, .slice none 0 0, .int .i64 0] 33)).cell? ⟨w.heap.size, 14, none⟩ = some (.int .i64 r.wkst) :=
  ⟨(own_two w #[.int .u8 r.freq, .int .i64 r.interval, .int .i64 r.count, .int .u8 r.uk, .int .i64 r.us, sv 4, sv 5, sv 6, sv 7, sv 8, sv 9, sv 10, sv 11, sv 12, .int .i64 r.wkst] _ _ 0).trans rfl, (own_two w #[.int .u8 r.freq, .int .i64 r.interval, .int .i64 r.count, .int .u8 r.uk, .int .i64 r.us, sv 4, sv 5, sv 6, sv 7, sv 8, sv 9, sv 10, sv 11, sv 12, .int .i64 r.wkst] _ _ 1).trans rfl, (own_two w #[.int .u8 r.freq, .int .i64 r.interval, .int .i64 r.count, .int .u8 r.uk, .int .i64 r.us, sv 4, sv 5, sv 6, sv 7, sv 8, sv 9, sv 10, sv 11, sv 12, .int .i64 r.wkst] _ _ 2).trans rfl, (own_two w #[.int .u8 r.freq, .int .i64 r.interval, .int .i64 r.count, .int .u8 r.uk, .int .i64 r.us, sv 4, sv 5, sv 6, sv 7, sv 8, sv 9, sv 10, sv 11, sv 12, .int .i64 r.wkst] _ _ 3).trans rfl, (own_two w #[.int .u8 r.freq, .int .i64 r.interval, .int .i64 r.count, .int .u8 r.uk, .int .i64 r.us, sv 4, sv 5, sv 6, sv 7, sv 8, sv 9, sv 10, sv 11, sv 12, .int .i64 r.wkst] _ _ 4).trans rfl, (own_two w #[.int .u8 r.freq, .int .i64 r.interval, .int .i64 r.count, .int .u8 r.uk, .int .i64 r.us, sv 4, sv 5, sv 6, sv 7, sv 8, sv 9, sv 10, sv 11, sv 12, .int .i64 r.wkst] _ _ 5).trans rfl, (own_two w #[.int .u8 r.freq, .int .i64 r.interval, .int .i64 r.count, .int .u8 r.uk, .int .i64 r.us, sv 4, sv 5, sv 6, sv 7, sv 8, sv 9, sv 10, sv 11, sv 12, .int .i64 r.wkst] _ _ 6).trans rfl, (own_two w #[.int .u8 r.freq, .int .i64 r.interval, .int .i64 r.count, .int .u8 r.uk, .int .i64 r.us, sv 4, sv 5, sv 6, sv 7, sv 8, sv 9, sv 10, sv 11, sv 12, .int .i64 r.wkst] _ _ 7).trans rfl, (own_two w #[.int .u8 r.freq, .int .i64 r.interval, .int .i64 r.count, .int .u8 r.uk, .int .i64 r.us, sv 4, sv 5, sv 6, sv 7, sv 8, sv 9, sv 10, sv 11, sv 12, .int .i64 r.wkst] _ _ 8).trans rfl, (own_two w #[.int .u8 r.freq, .int .i64 r.interval, .int .i64 r.count, .int .u8 r.uk, .int .i64 r.us, sv 4, sv 5, sv 6, sv 7, sv 8, sv 9, sv 10, sv 11, sv 12, .int .i64 r.wkst] _ _ 9).trans rfl, (own_two w #[.int .u8 r.freq, .int .i64 r.interval, .int .i64 r.count, .int .u8 r.uk, .int .i64 r.us, sv 4, sv 5, sv 6, sv 7, sv 8, sv 9, sv 10, sv 11, sv 12, .int .i64 r.wkst] _ _ 10).trans rfl, (own_two w #[.int .u8 r.freq, .int .i64 r.interval, .int .i64 r.count, .int .u8 r.uk, .int .i64 r.us, sv 4, sv 5, sv 6, sv 7, sv 8, sv 9, sv 10, sv 11, sv 12, .int .i64 r.wkst] _ _ 11).trans rfl, (own_two w #[.int .u8 r.freq, .int .i64 r.interval, .int .i64 r.count, .int .u8 r.uk, .int .i64 r.us, sv 4, sv 5, sv 6, sv 7, sv 8, sv 9, sv 10, sv 11, sv 12, .int .i64 r.wkst] _ _ 12).trans rfl, (own_two w #[.int .u8 r.freq, .int .i64 r.interval, .int .i64 r.count, .int .u8 r.uk, .int .i64 r.us, sv 4, sv 5, sv 6, sv 7, sv 8, sv 9, sv 10, sv 11, sv 12, .int .i64 r.wkst] _ _ 13).trans rfl, (own_two w #[.int .u8 r.freq, .int .i64 r.interval, .int .i64 r.count, .int .u8 r.uk, .int .i64 r.us, sv 4, sv 5, sv 6, sv 7, sv 8, sv 9, sv 10, sv 11, sv 12, .int .i64 r.wkst] _ _ 14).trans rfl⟩
 have B0 := Lib.hid (Below.next_alloc (Below.next_alloc (Below.refl _ w) (.cells #[.int .u8 r.freq, .int .i64 r.interval, .int .i64 r.count, .int .u8 r.uk, .int .i64 r.us, sv 4, sv 5, sv 6, sv 7, sv 8, sv 9, sv 10, sv 11, sv 12, .int .i64 r.wkst] 27)) (.cells #[.int .u8 0, .int .i64 0, .int .i64 0, .int .u8 0, .int .i64 0, .slice none 0 0, .slice none 0 0, .slice none 0 0, .slice none 0 0, .slice none 0 0, .slice none 0 0, .slice none 0 0, .slice none 0 0, .slice none 0 0, .int .i64 0] 33))
 have Z0 : ((w.alloc (.cells #[.int .u8 r.freq, .int .i64 r.interval, .int .i64 r.count, .int .u8 r.uk, .int .i64 r.us, sv 4, sv 5, sv 6, sv 7, sv 8, sv 9, sv 10, sv 11, sv 12, .int .i64 r.wkst] 27)).alloc (.cells #[.int .u8 0, .int .i64 0, .int .i64 0, .int .u8 0, .int .i64 0, .slice none 0 0, .slice none 0 0, .slice none 0 0, .slice none 0 0, .slice none 0 0, .slice none 0 0, .slice none 0 0, .slice none 0 0, .slice none 0 0, .int .i64 0] 33)).heap.size = w.heap.size + 2 := by simp
 have N0 : ∀ i v, (#[.int .u8 0, .int .i64 0, .int .i64 0, .int .u8 0, .int .i64 0, .slice none 0 0, .slice none 0 0, .slice none 0 0, .slice none 0 0, .slice none 0 0, .slice none 0 0, .slice none 0 0, .slice none 0 0, .slice none 0 0, .int .i64 0] : Array Value)[i]? = some v → ((w.alloc (.cells #[.int .u8 r.freq, .int .i64 r.interval, .int .i64 r.count, .int .u8 r.uk, .int .i64 r.us, sv 4, sv 5, sv 6, sv 7, sv 8, sv 9, sv 10, sv 11, sv 12, .int .i64 r.wkst] 27)).alloc (.cells #[.int .u8 0, .int .i64 0, .int .i64 0, .int .u8 0, .int .i64 0, .slice none 0 0, .slice none 0 0, .slice none 0 0, .slice none 0 0, .slice none 0 0, .slice none 0 0, .slice none 0 0, .slice none 0 0, .slice none 0 0, .int .i64 0] 33)).cell? ⟨w.heap.size + 1, i, none⟩ = some v := fun i v hv => by
  have h := World.cell?_alloc_new (w.alloc (.cells #[.int .u8 r.freq, .int .i64 r.interval, .int .i64 r.count, .int .u8 r.uk, .int .i64 r.us, sv 4, sv 5, sv 6, sv 7, sv 8, sv 9, sv 10, sv 11, sv 12, .int .i64 r.wkst] 27)) #[.int .u8 0, .int .i64 0, .int .i64 0, .int .u8 0, .int .i64 0, .slice none 0 0, .slice none 0 0, .slice none 0 0, .slice none 0 0, .slice none 0 0, .slice none 0 0, .slice none 0 0, .slice none 0 0, .slice none 0 0, .int .i64 0] 33 i
  rw [World.size_alloc] at h
  exact h.trans hv
 have M0 : ∀ i, ((w.alloc (.cells #[.int .u8 r.freq, .int .i64 r.interval, .int .i64 r.count, .int .u8 r.uk, .int .i64 r.us, sv 4, sv 5, sv 6, sv 7, sv 8, sv 9, sv 10, sv 11, sv 12, .int .i64 r.wkst] 27)).alloc (.cells #[.int .u8 0, .int .i64 0, .int .i64 0, .int .u8 0, .int .i64 0, .slice none 0 0, .slice none 0 0, .slice none 0 0, .slice none 0 0, .slice none 0 0, .slice none 0 0, .slice none 0 0, .slice none 0 0, .slice none 0 0, .int .i64 0] 33)).frozen? ⟨w.heap.size + 1, i, none⟩ = false := fun i => by
  have h := World.frozen?_alloc_new (w.alloc (.cells #[.int .u8 r.freq, .int .i64 r.interval, .int .i64 r.count, .int .u8 r.uk, .int .i64 r.us, sv 4, sv 5, sv 6, sv 7, sv 8, sv 9, sv 10, sv 11, sv 12, .int .i64 r.wkst] 27)) #[.int .u8 0, .int .i64 0, .int .i64 0, .int .u8 0, .int .i64 0, .slice none 0 0, .slice none 0 0, .slice none 0 0, .slice none 0 0, .slice none 0 0, .slice none 0 0, .slice none 0 0, .slice none 0 0, .slice none 0 0, .int .i64 0] 33 i
  rw [World.size_alloc] at h
  exact h
 replace N0 := Lib.hid N0
 replace M0 := Lib.hid M0
 generalize World.alloc _ _ = W0 at *
 have SL : ∀ W, Below W0.heap.size W0 W → (W.cell? ⟨w.heap.size, 0, none⟩ = some (.int .u8 r.freq) ∧ W.cell? ⟨w.heap.size, 1, none⟩ = some (.int .i64 r.interval) ∧ W.cell? ⟨w.heap.size, 2, none⟩ = some (.int .i64 r.count) ∧ W.cell? ⟨w.heap.size, 3, none⟩ = some (.int .u8 r.uk) ∧ W.cell? ⟨w.heap.size, 4, none⟩ = some (.int .i64 r.us) ∧ W.cell? ⟨w.heap.size, 5, none⟩ = some (sv 4) ∧ W.cell? ⟨w.heap.size, 6, none⟩ = some (sv 5) ∧ W.cell? ⟨w.heap.size, 7, none⟩ = some (sv 6) ∧ W.cell? ⟨w.heap.size, 8, none⟩ = some (sv 7) ∧ W.cell? ⟨w.heap.size, 9, none⟩ = some (sv 8) ∧ W.cell? ⟨w.heap.size, 10, none⟩ = some (sv 9) ∧ W.cell? ⟨w.heap.size, 11, none⟩ = some (sv 10) ∧ W.cell? ⟨w.heap.size, 12, none⟩ = some (sv 11) ∧ W.cell? ⟨w.heap.size, 13, none⟩ = some (sv 12) ∧ W.cell? ⟨w.heap.size, 14, none⟩ = some (.int .i64 r.wkst) ∧ W.cell? ⟨w.heap.size + 1, 0, none⟩ = some (held W ⟨w.heap.size + 1, 0, none⟩) ∧ W.cell? ⟨w.heap.size + 1, 1, none⟩ = some (held W ⟨w.heap.size + 1, 1, none⟩) ∧ W.cell? ⟨w.heap.size + 1, 2, none⟩ = some (held W ⟨w.heap.size + 1, 2, none⟩) ∧ W.cell? ⟨w.heap.size + 1, 3, none⟩ = some (held W ⟨w.heap.size + 1, 3, none⟩) ∧ W.cell? ⟨w.heap.size + 1, 4, none⟩ = some (held W ⟨w.heap.size + 1, 4, none⟩) ∧ W.cell? ⟨w.heap.size + 1, 5, none⟩ = some (held W ⟨w.heap.size + 1, 5, none⟩) ∧ W.cell? ⟨w.heap.size + 1, 6, none⟩ = some (held W ⟨w.heap.size + 1, 6, none⟩) ∧ W.cell? ⟨w.heap.size + 1, 7, none⟩ = some (held W ⟨w.heap.size + 1, 7, none⟩) ∧ W.cell? ⟨w.heap.size + 1, 8, none⟩ = some (held W ⟨w.heap.size + 1, 8, none⟩) ∧ W.cell? ⟨w.heap.size + 1, 9, none⟩ = some (held W ⟨w.heap.size + 1, 9, none⟩) ∧ W.cell? ⟨w.heap.size + 1, 10, none⟩ = some (held W ⟨w.heap.size + 1, 10, none⟩) ∧ W.cell? ⟨w.heap.size + 1, 11, none⟩ = some (held W ⟨w.heap.size + 1, 11, none⟩) ∧ W.cell? ⟨w.heap.size + 1, 12, none⟩ = some (held W ⟨w.heap.size + 1, 12, none⟩) ∧ W.cell? ⟨w.heap.size + 1, 13, none⟩ = some (held W ⟨w.heap.size + 1, 13, none⟩) ∧ W.cell? ⟨w.heap.size + 1, 14, none⟩ = some (held W ⟨w.heap.size + 1, 14, none⟩) ∧ W.frozen? ⟨w.heap.size + 1, 0, none⟩ = false ∧ W.frozen? ⟨w.heap.size + 1, 1, none⟩ = false ∧ W.frozen? ⟨w.heap.size + 1, 2, none⟩ = false ∧ W.frozen? ⟨w.heap.size + 1, 3, none⟩ = false ∧ W.frozen? ⟨w.heap.size + 1, 4, none⟩ = false ∧ W.frozen? ⟨w.heap.size + 1, 5, none⟩ = false ∧ W.frozen? ⟨w.heap.size + 1, 6, none⟩ = false ∧ W.frozen? ⟨w.heap.size + 1, 7, none⟩ = false ∧ W.frozen? ⟨w.heap.size + 1, 8, none⟩ = false ∧ W.frozen? ⟨w.heap.size + 1, 9, none⟩ = false ∧ W.frozen? ⟨w.heap.size + 1, 10, none⟩ = false ∧ W.frozen? ⟨w.heap.size + 1, 11, none⟩ = false ∧ W.frozen? ⟨w.heap.size + 1, 12, none⟩ = false ∧ W.frozen? ⟨w.heap.size + 1, 13, none⟩ = false ∧ W.frozen? ⟨w.heap.size + 1, 14, none⟩ = false) := fun W hB => by
  have k : ∀ i v, W0.cell? ⟨w.heap.size, i, none⟩ = some v → W.cell? ⟨w.heap.size, i, none⟩ = some v := fun i v hv => (hB.cell (p := ⟨w.heap.size, i, none⟩) (by rw [Z0]; simp only; omega)).trans hv
  have kz : ∀ i v, W0.cell? ⟨w.heap.size + 1, i, none⟩ = some v → W.cell? ⟨w.heap.size + 1, i, none⟩ = some v := fun i v hv => (hB.cell (p := ⟨w.heap.size + 1, i, none⟩) (by rw [Z0]; simp only; omega)).trans hv
  have kf : ∀ i, W.frozen? ⟨w.heap.size + 1, i, none⟩ = false := fun i => (hB.frozen (p := ⟨w.heap.size + 1, i, none⟩) (by rw [Z0]; simp only; omega)).trans (M0.out i)
  obtain ⟨k0, k1, k2, k3, k4, k5, k6, k7, k8, k9, k10, k11, k12, k13, k14⟩ := K0
  exact ⟨k _ _ k0, k _ _ k1, k _ _ k2, k _ _ k3, k _ _ k4, k _ _ k5, k _ _ k6, k _ _ k7, k _ _ k8, k _ _ k9, k _ _ k10, k _ _ k11, k _ _ k12, k _ _ k13, k _ _ k14, held_mk (kz _ _ (N0.out 0 _ rfl)), held_mk (kz _ _ (N0.out 1 _ rfl)), held_mk (kz _ _ (N0.out 2 _ rfl)), held_mk (kz _ _ (N0.out 3 _ rfl)), held_mk (kz _ _ (N0.out 4 _ rfl)), held_mk (kz _ _ (N0.out 5 _ rfl)), held_mk (kz _ _ (N0.out 6 _ rfl)), held_mk (kz _ _ (N0.out 7 _ rfl)), held_mk (kz _ _ (N0.out 8 _ rfl)), held_mk (kz _ _ (N0.out 9 _ rfl)), held_mk (kz _ _ (N0.out 10 _ rfl)), held_mk (kz _ _ (N0.out 11 _ rfl)), held_mk (kz _ _ (N0.out 12 _ rfl)), held_mk (kz _ _ (N0.out 13 _ rfl)), held_mk (kz _ _ (N0.out 14 _ rfl)), kf 0, kf 1, kf 2, kf 3, kf 4, kf 5, kf 6, kf 7, kf 8, kf 9, kf 10, kf 11, kf 12, kf 13, kf 14⟩
 clear K0
 obtain ⟨k0, k1, k2, k3, k4, k5, k6, k7, k8, k9, k10, k11, k12, k13, k14, l0, l1, l2, l3, l4, l5, l6, l7, l8, l9, l10, l11, l12, l13, l14, m0, m1, m2, m3, m4, m5, m6, m7, m8, m9, m10, m11, m12, m13, m14⟩ := SL W0 (Below.refl _ _)
 replace SL := Lib.hid SL
 go_region_held3 (fun w' => w'.cell? ⟨w.heap.size, 0, none⟩ = some (.int .u8 r.freq) ∧ w'.cell? ⟨w.heap.size, 1, none⟩ = some (.int .i64 r.interval) ∧ w'.cell? ⟨w.heap.size, 2, none⟩ = some (.int .i64 r.count) ∧ w'.cell? ⟨w.heap.size, 3, none⟩ = some (.int .u8 r.uk) ∧ w'.cell? ⟨w.heap.size, 4, none⟩ = some (.int .i64 r.us) ∧ w'.cell? ⟨w.heap.size, 5, none⟩ = some (sv 4) ∧ w'.cell? ⟨w.heap.size, 6, none⟩ = some (sv 5) ∧ w'.cell? ⟨w.heap.size, 7, none⟩ = some (sv 6) ∧ w'.cell? ⟨w.heap.size, 8, none⟩ = some (sv 7) ∧ w'.cell? ⟨w.heap.size, 9, none⟩ = some (sv 8) ∧ w'.cell? ⟨w.heap.size, 10, none⟩ = some (sv 9) ∧ w'.cell? ⟨w.heap.size, 11, none⟩ = some (sv 10) ∧ w'.cell? ⟨w.heap.size, 12, none⟩ = some (sv 11) ∧ w'.cell? ⟨w.heap.size, 13, none⟩ = some (sv 12) ∧ w'.cell? ⟨w.heap.size, 14, none⟩ = some (.int .i64 r.wkst) ∧ w'.cell? ⟨w.heap.size + 1, 0, none⟩ = some (held w' ⟨w.heap.size + 1, 0, none⟩) ∧ w'.cell? ⟨w.heap.size + 1, 1, none⟩ = some (held w' ⟨w.heap.size + 1, 1, none⟩) ∧ w'.cell? ⟨w.heap.size + 1, 2, none⟩ = some (held w' ⟨w.heap.size + 1, 2, none⟩) ∧ w'.cell? ⟨w.heap.size + 1, 3, none⟩ = some (held w' ⟨w.heap.size + 1, 3, none⟩) ∧ w'.cell? ⟨w.heap.size + 1, 4, none⟩ = some (held w' ⟨w.heap.size + 1, 4, none⟩) ∧ w'.cell? ⟨w.heap.size + 1, 5, none⟩ = some (held w' ⟨w.heap.size + 1, 5, none⟩) ∧ w'.cell? ⟨w.heap.size + 1, 6, none⟩ = some (held w' ⟨w.heap.size + 1, 6, none⟩) ∧ w'.cell? ⟨w.heap.size + 1, 7, none⟩ = some (held w' ⟨w.heap.size + 1, 7, none⟩) ∧ w'.cell? ⟨w.heap.size + 1, 8, none⟩ = some (held w' ⟨w.heap.size + 1, 8, none⟩) ∧ w'.cell? ⟨w.heap.size + 1, 9, none⟩ = some (held w' ⟨w.heap.size + 1, 9, none⟩) ∧ w'.cell? ⟨w.heap.size + 1, 10, none⟩ = some (held w' ⟨w.heap.size + 1, 10, none⟩) ∧ w'.cell? ⟨w.heap.size + 1, 11, none⟩ = some (held w' ⟨w.heap.size + 1, 11, none⟩) ∧ w'.cell? ⟨w.heap.size + 1, 12, none⟩ = some (held w' ⟨w.heap.size + 1, 12, none⟩) ∧ w'.cell? ⟨w.heap.size + 1, 13, none⟩ = some (held w' ⟨w.heap.size + 1, 13, none⟩) ∧ w'.cell? ⟨w.heap.size + 1, 14, none⟩ = some (held w' ⟨w.heap.size + 1, 14, none⟩) ∧ w'.frozen? ⟨w.heap.size + 1, 0, none⟩ = false ∧ w'.frozen? ⟨w.heap.size + 1, 1, none⟩ = false ∧ w'.frozen? ⟨w.heap.size + 1, 2, none⟩ = false ∧ w'.frozen? ⟨w.heap.size + 1, 3, none⟩ = false ∧ w'.frozen? ⟨w.heap.size + 1, 4, none⟩ = false ∧ w'.frozen? ⟨w.heap.size + 1, 5, none⟩ = false ∧ w'.frozen? ⟨w.heap.size + 1, 6, none⟩ = false ∧ w'.frozen? ⟨w.heap.size + 1, 7, none⟩ = false ∧ w'.frozen? ⟨w.heap.size + 1, 8, none⟩ = false ∧ w'.frozen? ⟨w.heap.size + 1, 9, none⟩ = false ∧ w'.frozen? ⟨w.heap.size + 1, 10, none⟩ = false ∧ w'.frozen? ⟨w.heap.size + 1, 11, none⟩ = false ∧ w'.frozen? ⟨w.heap.size + 1, 12, none⟩ = false ∧ w'.frozen? ⟨w.heap.size + 1, 13, none⟩ = false ∧ w'.frozen? ⟨w.heap.size + 1, 14, none⟩ = false) (first | ((with_reducible refine SL.out _ ?_); (with_reducible (repeat' (first|assumption|exact Below.refl _ _|apply Below.next_alloc|apply Below.drew|(apply Below.next;rotate_left;assumption)))); done) | ((repeat' (with_reducible apply And.intro)) <;> (first | ((with_reducible refine held_is ?_); (repeat (with_reducible refine set_some ?_)); go_keep; done) | (go_keep; done))))
  (first
   | (go_at_call 34; (with_reducible refine (F4.out _ (Below.next B0.out (by (repeat' (first|assumption|exact Below.refl _ _|apply Below.next_alloc|apply Below.drew|(apply Below.next;rotate_left;assumption)))))).mono ?_); rintro e y4 ⟨v4, rfl, hO4, hB4⟩; obtain ⟨p4, u4, rfl⟩ := hO4.slice)
   | (go_at_call 34; (with_reducible refine (F5.out _ (Below.next B0.out (by (repeat' (first|assumption|exact Below.refl _ _|apply Below.next_alloc|apply Below.drew|(apply Below.next;rotate_left;assumption)))))).mono ?_); rintro e y5 ⟨v5, rfl, hO5, hB5⟩; obtain ⟨p5, u5, rfl⟩ := hO5.slice)
   | (go_at_call 34; (with_reducible refine (F6.out _ (Below.next B0.out (by (repeat' (first|assumption|exact Below.refl _ _|apply Below.next_alloc|apply Below.drew|(apply Below.next;rotate_left;assumption)))))).mono ?_); rintro e y6 ⟨v6, rfl, hO6, hB6⟩; obtain ⟨p6, u6, rfl⟩ := hO6.slice)
   | (go_at_call 35; (with_reducible refine (F7.out _ (Below.next B0.out (by (repeat' (first|assumption|exact Below.refl _ _|apply Below.next_alloc|apply Below.drew|(apply Below.next;rotate_left;assumption)))))).mono ?_); rintro e y7 ⟨v7, rfl, hO7, hB7⟩; obtain ⟨p7, u7, rfl⟩ := hO7.slice)
   | (go_at_call 34; (with_reducible refine (F8.out _ (Below.next B0.out (by (repeat' (first|assumption|exact Below.refl _ _|apply Below.next_alloc|apply Below.drew|(apply Below.next;rotate_left;assumption)))))).mono ?_); rintro e y8 ⟨v8, rfl, hO8, hB8⟩; obtain ⟨p8, u8, rfl⟩ := hO8.slice)
   | (go_at_call 34; (with_reducible refine (F9.out _ (Below.next B0.out (by (repeat' (first|assumption|exact Below.refl _ _|apply Below.next_alloc|apply Below.drew|(apply Below.next;rotate_left;assumption)))))).mono ?_); rintro e y9 ⟨v9, rfl, hO9, hB9⟩; obtain ⟨p9, u9, rfl⟩ := hO9.slice)
   | (go_at_call 34; (with_reducible refine (F10.out _ (Below.next B0.out (by (repeat' (first|assumption|exact Below.refl _ _|apply Below.next_alloc|apply Below.drew|(apply Below.next;rotate_left;assumption)))))).mono ?_); rintro e y10 ⟨v10, rfl, hO10, hB10⟩; obtain ⟨p10, u10, rfl⟩ := hO10.slice)
   | (go_at_call 34; (with_reducible refine (F11.out _ (Below.next B0.out (by (repeat' (first|assumption|exact Below.refl _ _|apply Below.next_alloc|apply Below.drew|(apply Below.next;rotate_left;assumption)))))).mono ?_); rintro e y11 ⟨v11, rfl, hO11, hB11⟩; obtain ⟨p11, u11, rfl⟩ := hO11.slice)
   | (go_at_call 34; (with_reducible refine (F12.out _ (Below.next B0.out (by (repeat' (first|assumption|exact Below.refl _ _|apply Below.next_alloc|apply Below.drew|(apply Below.next;rotate_left;assumption)))))).mono ?_); rintro e y12 ⟨v12, rfl, hO12, hB12⟩; obtain ⟨p12, u12, rfl⟩ := hO12.slice))
 have BB := Lib.hid (Below.next (Below.next (Below.next (Below.next (Below.next (Below.next (Below.next (Below.next (Below.next B0.out.drew hB4) hB5) hB6) hB7) hB8) hB9) hB10) hB11) hB12)
 have BW := Lib.hid (Below.next (Below.next (Below.next (Below.next (Below.next (Below.next (Below.next (Below.next (Below.next (Below.refl W0.heap.size W0).drew hB4) hB5) hB6) hB7) hB8) hB9) hB10) hB11) hB12)
 have hSA : (((((((((((((((y12.setCell ⟨w.heap.size + 1, 0, none⟩ (.int .u8 r.freq)).setCell ⟨w.heap.size + 1, 1, none⟩ (.int .i64 r.interval)).setCell ⟨w.heap.size + 1, 2, none⟩ (.int .i64 r.count)).setCell ⟨w.heap.size + 1, 3, none⟩ (.int .u8 r.uk)).setCell ⟨w.heap.size + 1, 4, none⟩ (.int .i64 r.us)).setCell ⟨w.heap.size + 1, 5, none⟩ (.slice p4 r.sec.length u4)).setCell ⟨w.heap.size + 1, 6, none⟩ (.slice p5 r.min.length u5)).setCell ⟨w.heap.size + 1, 7, none⟩ (.slice p6 r.hour.length u6)).setCell ⟨w.heap.size + 1, 8, none⟩ (.slice p7 r.day.length u7)).setCell ⟨w.heap.size + 1, 9, none⟩ (.slice p8 r.mday.length u8)).setCell ⟨w.heap.size + 1, 10, none⟩ (.slice p9 r.yday.length u9)).setCell ⟨w.heap.size + 1, 11, none⟩ (.slice p10 r.weekno.length u10)).setCell ⟨w.heap.size + 1, 12, none⟩ (.slice p11 r.month.length u11)).setCell ⟨w.heap.size + 1, 13, none⟩ (.slice p12 r.setpos.length u12)).setCell ⟨w.heap.size + 1, 14, none⟩ (.int .i64 r.wkst)) = setAll (w.heap.size + 1) y12 0 [.int .u8 r.freq, .int .i64 r.interval, .int .i64 r.count, .int .u8 r.uk, .int .i64 r.us, .slice p4 r.sec.length u4, .slice p5 r.min.length u5, .slice p6 r.hour.length u6, .slice p7 r.day.length u7, .slice p8 r.mday.length u8, .slice p9 r.yday.length u9, .slice p10 r.weekno.length u10, .slice p11 r.month.length u11, .slice p12 r.setpos.length u12, .int .i64 r.wkst] := rfl
 rw [hSA]
 clear hSA
 have VV := Lib.hid (SL.out y12 BW.out).2.2.2.2.2.2.2.2.2.2.2.2.2.2.2
 have HS : ∀ j, 0 ≤ j → j < 0 + 15 → (y12.cell? ⟨w.heap.size + 1, j, none⟩).isSome = true := fun j _ hj => by
  obtain ⟨e0, e1, e2, e3, e4, e5, e6, e7, e8, e9, e10, e11, e12, e13, e14, -⟩ := VV.out
  match j, hj with
  | 0, _ => rw [e0]; rfl
  | 1, _ => rw [e1]; rfl
  | 2, _ => rw [e2]; rfl
  | 3, _ => rw [e3]; rfl
  | 4, _ => rw [e4]; rfl
  | 5, _ => rw [e5]; rfl
  | 6, _ => rw [e6]; rfl
  | 7, _ => rw [e7]; rfl
  | 8, _ => rw [e8]; rfl
  | 9, _ => rw [e9]; rfl
  | 10, _ => rw [e10]; rfl
  | 11, _ => rw [e11]; rfl
  | 12, _ => rw [e12]; rfl
  | 13, _ => rw [e13]; rfl
  | 14, _ => rw [e14]; rfl
 have CC := fun i v h => setAll_cell (w.heap.size + 1) [.int .u8 r.freq, .int .i64 r.interval, .int .i64 r.count, .int .u8 r.uk, .int .i64 r.us, .slice p4 r.sec.length u4, .slice p5 r.min.length u5, .slice p6 r.hour.length u6, .slice p7 r.day.length u7, .slice p8 r.mday.length u8, .slice p9 r.yday.length u9, .slice p10 r.weekno.length u10, .slice p11 r.month.length u11, .slice p12 r.setpos.length u12, .int .i64 r.wkst] y12 0 i v HS h
 have c0 := CC 0 _ rfl
 have c1 := CC 1 _ rfl
 have c2 := CC 2 _ rfl
 have c3 := CC 3 _ rfl
 have c4 := CC 4 _ rfl
 have c5 := CC 5 _ rfl
 have c6 := CC 6 _ rfl
 have c7 := CC 7 _ rfl
 have c8 := CC 8 _ rfl
 have c9 := CC 9 _ rfl
 have c10 := CC 10 _ rfl
 have c11 := CC 11 _ rfl
 have c12 := CC 12 _ rfl
 have c13 := CC 13 _ rfl
 have c14 := CC 14 _ rfl
 simp only [Nat.zero_add] at c0 c1 c2 c3 c4 c5 c6 c7 c8 c9 c10 c11 c12 c13 c14
 have hk := setAll_heap (w.heap.size + 1) [.int .u8 r.freq, .int .i64 r.interval, .int .i64 r.count, .int .u8 r.uk, .int .i64 r.us, .slice p4 r.sec.length u4, .slice p5 r.min.length u5, .slice p6 r.hour.length u6, .slice p7 r.day.length u7, .slice p8 r.mday.length u8, .slice p9 r.yday.length u9, .slice p10 r.weekno.length u10, .slice p11 r.month.length u11, .slice p12 r.setpos.length u12, .int .i64 r.wkst] y12 0
 have BF := Lib.hid (setAll_below (w.heap.size + 1) (Nat.le_succ _) [.int .u8 r.freq, .int .i64 r.interval, .int .i64 r.count, .int .u8 r.uk, .int .i64 r.us, .slice p4 r.sec.length u4, .slice p5 r.min.length u5, .slice p6 r.hour.length u6, .slice p7 r.day.length u7, .slice p8 r.mday.length u8, .slice p9 r.yday.length u9, .slice p10 r.weekno.length u10, .slice p11 r.month.length u11, .slice p12 r.setpos.length u12, .int .i64 r.wkst] y12 0 BB.out)
 have z4 : w.heap.size + 1 < W0.drew.heap.size := by show w.heap.size + 1 < W0.heap.size; omega
 have z5 : w.heap.size + 1 < y4.heap.size := Nat.lt_of_lt_of_le z4 hB4.size
 have z6 : w.heap.size + 1 < y5.heap.size := Nat.lt_of_lt_of_le z5 hB5.size
 have z7 : w.heap.size + 1 < y6.heap.size := Nat.lt_of_lt_of_le z6 hB6.size
 have z8 : w.heap.size + 1 < y7.heap.size := Nat.lt_of_lt_of_le z7 hB7.size
 have z9 : w.heap.size + 1 < y8.heap.size := Nat.lt_of_lt_of_le z8 hB8.size
 have z10 : w.heap.size + 1 < y9.heap.size := Nat.lt_of_lt_of_le z9 hB9.size
 have z11 : w.heap.size + 1 < y10.heap.size := Nat.lt_of_lt_of_le z10 hB10.size
 have z12 : w.heap.size + 1 < y11.heap.size := Nat.lt_of_lt_of_le z11 hB11.size
 have I4 := ((hO4.below (Below.next (Below.next (Below.next (Below.next (Below.next (Below.next (Below.next hB5 hB6) hB7) hB8) hB9) hB10) hB11) hB12)).moved (hk · ·) z4).less (Nat.le_trans (Nat.le_succ _) (Nat.le_of_lt z4))
 have I5 := ((hO5.below (Below.next (Below.next (Below.next (Below.next (Below.next (Below.next hB6 hB7) hB8) hB9) hB10) hB11) hB12)).moved (hk · ·) z5).less (Nat.le_trans (Nat.le_succ _) (Nat.le_of_lt z5))
 have I6 := ((hO6.below (Below.next (Below.next (Below.next (Below.next (Below.next hB7 hB8) hB9) hB10) hB11) hB12)).moved (hk · ·) z6).less (Nat.le_trans (Nat.le_succ _) (Nat.le_of_lt z6))
 have I7 := ((hO7.below (Below.next (Below.next (Below.next (Below.next hB8 hB9) hB10) hB11) hB12)).moved (hk · ·) z7).less (Nat.le_trans (Nat.le_succ _) (Nat.le_of_lt z7))
 have I8 := ((hO8.below (Below.next (Below.next (Below.next hB9 hB10) hB11) hB12)).moved (hk · ·) z8).less (Nat.le_trans (Nat.le_succ _) (Nat.le_of_lt z8))
 have I9 := ((hO9.below (Below.next (Below.next hB10 hB11) hB12)).moved (hk · ·) z9).less (Nat.le_trans (Nat.le_succ _) (Nat.le_of_lt z9))
 have I10 := ((hO10.below (Below.next hB11 hB12)).moved (hk · ·) z10).less (Nat.le_trans (Nat.le_succ _) (Nat.le_of_lt z10))
 have I11 := ((hO11.below hB12).moved (hk · ·) z11).less (Nat.le_trans (Nat.le_succ _) (Nat.le_of_lt z11))
 have I12 := ((hO12.below (Below.refl _ _)).moved (hk · ·) z12).less (Nat.le_trans (Nat.le_succ _) (Nat.le_of_lt z12))
 clear hk CC HS VV
 generalize setAll (w.heap.size + 1) y12 0 [.int .u8 r.freq, .int .i64 r.interval, .int .i64 r.count, .int .u8 r.uk, .int .i64 r.us, .slice p4 r.sec.length u4, .slice p5 r.min.length u5, .slice p6 r.hour.length u6, .slice p7 r.day.length u7, .slice p8 r.mday.length u8, .slice p9 r.yday.length u9, .slice p10 r.weekno.length u10, .slice p11 r.month.length u11, .slice p12 r.setpos.length u12, .int .i64 r.wkst] = Wf at *
 have LL : ListsN Wf w.heap.size r (sv9 (.slice p4 r.sec.length u4) (.slice p5 r.min.length u5) (.slice p6 r.hour.length u6) (.slice p7 r.day.length u7) (.slice p8 r.mday.length u8) (.slice p9 r.yday.length u9) (.slice p10 r.weekno.length u10) (.slice p11 r.month.length u11) (.slice p12 r.setpos.length u12)) := by
  refine ⟨fun q h4 h12 h7 => ?_, I7⟩
  have hc : q = 4 ∨ q = 5 ∨ q = 6 ∨ q = 8 ∨ q = 9 ∨ q = 10 ∨ q = 11 ∨ q = 12 := by omega
  rcases hc with rfl | rfl | rfl | rfl | rfl | rfl | rfl | rfl
  ·exact I4
  ·exact I5
  ·exact I6
  ·exact I8
  ·exact I9
  ·exact I10
  ·exact I11
  ·exact I12
 replace LL := Lib.hid LL
 clear I4 hO4 hB4 z4 F4 I5 hO5 hB5 z5 F5 I6 hO6 hB6 z6 F6 I7 hO7 hB7 z7 F7 I8 hO8 hB8 z8 F8 I9 hO9 hB9 z9 F9 I10 hO10 hB10 z10 F10 I11 hO11 hB11 z11 F11 I12 hO12 hB12 z12 F12 SL B0 BB BW N0 M0
 go_wp2
 refine bodyPost_ret (v := ruleV r (sv9 (.slice p4 r.sec.length u4) (.slice p5 r.min.length u5) (.slice p6 r.hour.length u6) (.slice p7 r.day.length u7) (.slice p8 r.mday.length u8) (.slice p9 r.yday.length u9) (.slice p10 r.weekno.length u10) (.slice p11 r.month.length u11) (.slice p12 r.setpos.length u12))) (by simp [results, Tryz.results11, go_sem, ruleV, ruleC, sv9, c0, c1, c2, c3, c4, c5, c6, c7, c8, c9, c10, c11, c12, c13, c14]) rfl ⟨_, rfl, LL.out, BF.out⟩
end Go.Proofs.YtkbohijlhhpfbaaGreatDoor.Ra

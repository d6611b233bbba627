import Derived.Test.YtkbohijlhhpfbaaGreatDoorVYi
import Derived.Test.YtkbohijlhhpfbaaGreatDoorVYa
import Derived.Test.YtkbohijlhhpfbaaGreatDoorVFb
/- What a period has: the plain law of Each, Member and Picks. -/
namespace Go.Proofs.YtkbohijlhhpfbaaGreatDoor.Xp
open Ru
theorem counts_ok {r : R} (f0 : 0 ≤ r.freq) (hc : chkR r = 0) : Pd.counts r.freq r.wkst = true := by
 have h : head r = 0 := by
  unfold chkR at hc
  by_cases h : head r = 0
  ·exact h
  ·rw [if_pos h] at hc; exact absurd hc h
 unfold head at h
 rw [Pd.counts_iff]
 by_cases h1 : 6 < r.freq
 ·rw [if_pos h1] at h; omega
 ·rw [if_neg h1] at h
  split at h
  ·omega
  ·rename_i h2
   omega
theorem at_sec {r : R} {t i : Int} (f0 : 0 ≤ r.freq) (hc : chkR r = 0) (h0 : 0 ≤ t) (h1 : t ≤ 315537897599) (hi : i = Pd.index r.freq r.wkst t) : Shape r.freq (fr r i) (tt r i) ∧ fr r i ≤ t ∧ t < tt r i := by
 have hk := counts_ok f0 hc
 have hp := Pd.parts hk f0 h0 h1
 obtain ⟨b0, b1, b2⟩ := Pd.index_bd hk f0 h0 h1
 subst hi
 exact ⟨shape f0 hk b1 b2, hp.2.1, hp.2.2.1⟩
theorem okE_iff {r : R} {s i : Int} : okE r s i = true ↔ (0 ≤ s ∧ s ≤ 315537897599 ∧ chkR r = 0) ∧ fr r i < tt r i := by
 unfold okE Tm.mayT; simp
theorem mem_dys {r : R} {s i x : Int} (s0 : 0 ≤ s) (s1 : s ≤ 315537897599) (hc : chkR r = 0) (hS : Shape r.freq (fr r i) (tt r i)) : x ∈ dys r s i ↔ fr r i / 86400 ≤ x ∧ x < (tt r i + 86399) / 86400 ∧ Dy.lets r (Dy.about (s / 86400)) (Dy.about x) = true := by
 obtain ⟨h1, h2, h3, h4, h5, h6⟩ := hS
 have hd : Civ.isDay (s / 86400) = true := (Civ.isDay_iff _).2 (by omega)
 unfold dys Dy.daysOf
 rw [if_neg (by rw [hd]; simp only [ne_eq, Bool.true_eq_false, or_false]; omega), days_mem]
 rw [show fr r i / 86400 + (((tt r i + 86399) / 86400 - fr r i / 86400).toNat : Int) = (tt r i + 86399) / 86400 by omega]
theorem passes_lets {r : R} {s x : Int} (s0 : 0 ≤ s) (s1 : s ≤ 315537897599) (hc : chkR r = 0) (x0 : 0 ≤ x) (x1 : x ≤ 3652058) : Dy.passes r s x = Dy.lets r (Dy.about (s / 86400)) (Dy.about x) := by
 unfold Dy.passes
 rw [(Civ.isDay_iff _).2 ⟨x0, x1⟩, (Civ.isDay_iff (s / 86400)).2 (by omega), decide_eq_true s0, decide_eq_true hc]; simp
theorem dys_rise (r : R) (s i : Int) : (dys r s i).Pairwise (· < ·) := by
 unfold dys Dy.daysOf
 split
 ·exact List.Pairwise.nil
 ·exact days_rise _ _ _ _
theorem mem_secs {r : R} {s a b x : Int} (ha : 0 ≤ a) (hab : a ≤ b) (hb : b ≤ 86400) : x ∈ Tm.secsOf r s a b ↔ a ≤ x ∧ x < b ∧ Tm.passT r s x = true := by
 rw [Tm.secs_one r ha hab hb]
 unfold Tm.one
 rw [List.mem_filter, Tm.rng_mem, show a + ((b - a).toNat : Int) = b by omega, and_assoc]
theorem secs_rise (r : R) (s a b : Int) : (Tm.secsOf r s a b).Pairwise (· < ·) := by
 rw [Tm.secs_eq]
 unfold Tm.rsecs
 split
 ·exact Tm.rise_RH _ _ _ _ _
 ·exact List.Pairwise.nil
theorem tms_rise (r : R) (s i : Int) : (tmsP r s i).Pairwise (· < ·) := by
 unfold tmsP tms
 split
 ·exact List.Pairwise.nil
 ·split <;> exact secs_rise _ _ _ _
theorem allE_rise (r : R) (s i : Int) : (allE r s i).Pairwise (· < ·) := by
 unfold allE
 split
 ·exact allOf_rise (dys_rise r s i) (tms_rise r s i) fun t ht => tms_bd ht
 ·exact List.Pairwise.nil
theorem mem_all {r : R} {s i x : Int} (f0 : 0 ≤ r.freq) (s0 : 0 ≤ s) (s1 : s ≤ 315537897599) (hc : chkR r = 0) (hS : Shape r.freq (fr r i) (tt r i)) :
  x ∈ allOf (dys r s i) (tmsP r s i) ↔ fr r i ≤ x ∧ x < tt r i ∧ Dy.passes r s (x / 86400) = true ∧ Tm.passT r s (x % 86400) = true := by
 have hS0 := hS
 obtain ⟨h1, h2, h3, h4, h5, h6⟩ := hS0
 rw [mem_allOf]
 constructor
 ·rintro ⟨d, hd, u, hu, rfl⟩
  obtain ⟨d1, d2⟩ := dys_bd hd
  obtain ⟨u1, u2⟩ := tms_bd hu
  rw [mem_dys s0 s1 hc hS] at hd
  have e1 : (d * 86400 + u) / 86400 = d := by omega
  have e2 : (d * 86400 + u) % 86400 = u := by omega
  rw [e1, e2, passes_lets s0 s1 hc d1 d2]
  unfold tmsP tms at hu
  split at hu
  ·cases hu
  ·by_cases hf : 3 ≤ r.freq
   ·rw [if_pos hf, mem_secs (by omega) (by omega) (by omega)] at hu
    have := h5 hf
    exact ⟨by omega, by omega, hd.2.2, hu.2.2⟩
   ·have := h4 (by omega)
    rw [if_neg hf, mem_secs (by omega) (by omega) (by omega)] at hu
    exact ⟨by omega, by omega, hd.2.2, hu.2.2⟩
 ·rintro ⟨x0, x1, hp, ht⟩
  rw [passes_lets s0 s1 hc (by omega) (by omega)] at hp
  have hd : x / 86400 ∈ dys r s i := (mem_dys s0 s1 hc hS).2 ⟨by omega, by omega, hp⟩
  refine ⟨x / 86400, hd, x % 86400, ?_, by omega⟩
  unfold tmsP tms
  rw [if_neg (fun h => by have := List.length_pos_of_mem hd; omega)]
  by_cases hf : 3 ≤ r.freq
  ·rw [if_pos hf, mem_secs (by omega) (by omega) (by omega)]
   exact ⟨by omega, by omega, ht⟩
  ·have := h4 (by omega)
   rw [if_neg hf, mem_secs (by omega) (by omega) (by omega)]
   exact ⟨by omega, by omega, ht⟩
theorem costE_eq {r : R} {s i : Int} (ho : okE r s i = true) : costE r s i = ((dys r s i).length * (tmsP r s i).length : Nat) + 1 := by unfold costE; rw [if_pos ho, Int.natCast_mul]
theorem allE_eq {r : R} {s i : Int} (ho : okE r s i = true) (h : costE r s i ≤ 4000) : allE r s i = allOf (dys r s i) (tmsP r s i) := by
 rw [costE_eq ho] at h
 unfold allE
 rw [if_pos ⟨ho, by omega⟩]
theorem none_of {r : R} {s i : Int} (hc : ¬ chkR r = 0) : okE r s i = false := by
 rw [← Bool.not_eq_true, okE_iff]; exact fun h => hc h.1.2.2
theorem allE_none {r : R} {s i : Int} (ho : okE r s i = false) : allE r s i = [] := by unfold allE; rw [if_neg (by rw [ho]; simp)]
theorem member_law {r : R} {s t i : Int} (f0 : 0 ≤ r.freq) (s0 : 0 ≤ s) (s1 : s ≤ 315537897599) (t0 : 0 ≤ t) (t1 : t ≤ 315537897599) (hi : i = Pd.index r.freq r.wkst t) (h : costE r s i ≤ 4000) :
  decide (t ∈ allE r s i) = (Dy.passes r s (t / 86400) && Tm.passT r s (t % 86400)) := by
 by_cases hc : chkR r = 0
 ·obtain ⟨hS, h1, h2⟩ := at_sec f0 hc t0 t1 hi
  have ho : okE r s i = true := okE_iff.2 ⟨⟨s0, s1, hc⟩, by omega⟩
  rw [allE_eq ho h, Bool.eq_iff_iff, decide_eq_true_iff, mem_all f0 s0 s1 hc hS, Bool.and_eq_true]
  exact ⟨fun hh => hh.2.2, fun hh => ⟨h1, h2, hh⟩⟩
 ·rw [allE_none (none_of hc)]
  have : Dy.passes r s (t / 86400) = false := by unfold Dy.passes; rw [decide_eq_false hc]; simp
  rw [this]; simp
end Go.Proofs.YtkbohijlhhpfbaaGreatDoor.Xp
/- Helpers for the laws of chapter 25 (printed by gen_laws.py). -/
namespace Go.Proofs.YtkbohijlhhpfbaaGreatDoor.Xp
open Go.RowKit Ru Ut Cw Ra
def ln (r : R) (q : Nat) : Nat := if q = 7 then r.day.length else (lst r q).length
def svQ (r : R) (a : Nat → Option Addr) (c : Nat → Nat) (q : Nat) : Value := .slice (a q) (ln r q) (c q)
section
variable {r : R} (hW : Wide r) {a : Nat → Option Addr} {c : Nat → Nat} {W : World} (hT : Tab W) (hL : Lists W r (svQ r a c))
include hW hT hL
theorem qOf (s i : Int) : Calls Tryz.prog 17 #[.agg #[.int .u8 r.freq, .int .i64 r.interval, .int .i64 r.count, .int .u8 r.uk, .int .i64 r.us, .slice (a 4) r.sec.length (c 4), .slice (a 5) r.min.length (c 5), .slice (a 6) r.hour.length (c 6), .slice (a 7) r.day.length (c 7), .slice (a 8) r.mday.length (c 8), .slice (a 9) r.yday.length (c 9), .slice (a 10) r.weekno.length (c 10), .slice (a 11) r.month.length (c 11), .slice (a 12) r.setpos.length (c 12), .int .i64 r.wkst], .int .i64 s, .int .i64 i] W (Gives W (ofE r s i)) := of_any W r (svQ r a c) s i hT hL hW
end
theorem qCheck {r : R} (hW : Wide r) {a : Nat → Option Addr} {c : Nat → Nat} {W : World} (hL : Lists W r (svQ r a c)) : Calls Tryz.prog 33 #[.agg #[.int .u8 r.freq, .int .i64 r.interval, .int .i64 r.count, .int .u8 r.uk, .int .i64 r.us, .slice (a 4) r.sec.length (c 4), .slice (a 5) r.min.length (c 5), .slice (a 6) r.hour.length (c 6), .slice (a 7) r.day.length (c 7), .slice (a 8) r.mday.length (c 8), .slice (a 9) r.yday.length (c 9), .slice (a 10) r.weekno.length (c 10), .slice (a 11) r.month.length (c 11), .slice (a 12) r.setpos.length (c 12), .int .i64 r.wkst]] W fun e w' => e = .returned (.int .i64 (chkR r)) ∧ Below W.heap.size W w' := rcheck_any W r (svQ r a c) hL hW
end Go.Proofs.YtkbohijlhhpfbaaGreatDoor.Xp
/- The walk through a rule's periods, in plain lists. -/
namespace Go.Proofs.YtkbohijlhhpfbaaGreatDoor.Rs
open Ru Xp
structure P where
 r : R
 start : Int
 a : Int
 b : Int
 fin : Int
 budget : Int
 once : Bool
 outs : List Int
def hit (p : P) (t : Int) : Bool := decide (p.a ≤ t) && decide (t < p.b)
def ends (p : P) (t : Int) : Bool := hit p t && (p.once && !decide (t ∈ p.outs))
def add (p : P) (t : Int) (m : List Int) : List Int := if hit p t = true then m ++ [t] else m
def inner (p : P) : List Int → Int → List Int → Bool × Int × List Int
 | [], left, m => (false, left, m)
 | t :: l, left, m =>
  if t < p.start then inner p l left m
  else if p.fin < t then (true, left, m)
  else if (ends p t || decide (left - 1 = 0)) = true then (true, left - 1, add p t m)
  else inner p l (left - 1) (add p t m)
def run (p : P) (last : Int) : Nat → Int → Int → Int → List Int → Option (Int × List Int)
 | 0, _, _, used, m => some (used, m)
 | n + 1, i, left, used, m =>
  if last < i then some (used, m)
  else if p.b ≤ fr p.r i ∨ p.fin < fr p.r i then some (used, m)
  else if p.budget < used + costE p.r p.start i then none
  else
   let x := inner p (ofE p.r p.start i) left m
   if x.1 = true then some (used + costE p.r p.start i, x.2.2) else run p last n (i + p.r.interval) x.2.1 (used + costE p.r p.start i) x.2.2
def first (p : P) : Int := Pd.index p.r.freq p.r.wkst p.start
def begin (p : P) : Option Int :=
 if 0 < p.r.count then some (first p) else if 315537897599 < max p.a p.start then none
 else some (Pd.step (first p) p.r.interval (Pd.index p.r.freq p.r.wkst (max p.a p.start)))
def lastP (p : P) : Int := Pd.last p.r.freq p.r.wkst
def fuel (p : P) (i : Int) : Nat := (lastP p - i).toNat + 1
def walk (p : P) : Option (Int × List Int) :=
 match begin p with
 | none => some (0, [])
 | some i => run p (lastP p) (fuel p i) i p.r.count 0 []
/-! What was met is told by a filter. -/
def cand (p : P) (t : Int) : Bool := decide (p.start ≤ t) && decide (t ≤ p.fin)
def lim (left : Int) (l : List Int) : List Int := if left ≤ 0 then l else l.take left.toNat
def upTo (p : P) : List Int → List Int
 | [] => []
 | t :: l => if ends p t = true then [t] else t :: upTo p l
def met (p : P) (l : List Int) : List Int := (upTo p l).filter (hit p)
theorem add_eq (p : P) (t : Int) (m : List Int) : add p t m = m ++ [t].filter (hit p) := by
 unfold add; by_cases h : hit p t = true <;> simp [h]
def stops (p : P) (left : Int) (l : List Int) : Bool := (l.any (ends p)) || (decide (0 < left) && decide (left.toNat ≤ l.length))
theorem lim_nil (left : Int) : lim left [] = [] := by unfold lim; split <;> simp
theorem lim_cons {left : Int} {t : Int} {l : List Int} (h : ¬ left - 1 = 0) : lim left (t :: l) = t :: lim (left - 1) l := by
 unfold lim
 by_cases h1 : left ≤ 0
 ·rw [if_pos h1, if_pos (by omega)]
 ·rw [if_neg h1, if_neg (by omega), show left.toNat = (left - 1).toNat + 1 by omega, List.take_succ_cons]
theorem lim_one {left : Int} {t : Int} {l : List Int} (h : left - 1 = 0) : lim left (t :: l) = [t] := by
 unfold lim
 rw [if_neg (by omega), show left.toNat = 0 + 1 by omega, List.take_succ_cons, List.take_zero]
theorem upTo_append (p : P) (l m : List Int) : upTo p (l ++ m) = if l.any (ends p) = true then upTo p l else l ++ upTo p m := by
 induction l with
 | nil => simp
 | cons t l ih =>
  show (if ends p t = true then [t] else t :: upTo p (l ++ m)) = _
  rw [List.any_cons]
  by_cases h : ends p t = true
  ·simp [h, upTo]
  ·simp only [h, if_false, Bool.false_or, ih, upTo, Bool.false_eq_true]
   split <;> simp
theorem upTo_none {p : P} {l : List Int} (h : l.any (ends p) = false) : upTo p l = l := by
 induction l with
 | nil => rfl
 | cons t l ih =>
  rw [List.any_cons, Bool.or_eq_false_iff] at h
  show (if ends p t = true then [t] else t :: upTo p l) = _
  rw [h.1, ih h.2]; rfl
theorem inner_eq (p : P) : ∀ (l : List Int) (left : Int) (m : List Int), l.Pairwise (· < ·) →
  (inner p l left m).2.2 = m ++ met p (lim left (l.filter (cand p))) ∧
  (inner p l left m).1 = (stops p left (l.filter (cand p)) || l.any fun t => decide (p.start ≤ t) && decide (p.fin < t)) ∧
  ((inner p l left m).1 = false → (inner p l left m).2.1 = left - (l.filter (cand p)).length)
 | [], left, m, _ => by
  have e : stops p left [] = false := by
   show (false || (decide (0 < left) && decide (left.toNat ≤ 0))) = false
   by_cases h : 0 < left
   ·rw [decide_eq_false (show ¬ left.toNat ≤ 0 by omega), Bool.and_false]; rfl
   ·rw [decide_eq_false h, Bool.false_and]; rfl
  refine ⟨by simp [inner, lim_nil, met, upTo], ?_, fun _ => by simp [inner]⟩
  show false = (stops p left [] || false)
  rw [e]; rfl
 | t :: l, left, m, hp => by
  rw [List.pairwise_cons] at hp
  by_cases h1 : t < p.start
  ·have hc : cand p t = false := by unfold cand; rw [decide_eq_false (by omega), Bool.false_and]
   have e : inner p (t :: l) left m = inner p l left m := by rw [inner, if_pos h1]
   have ih := inner_eq p l left m hp.2
   rw [e, List.filter_cons_of_neg (by rw [hc]; simp), List.any_cons, decide_eq_false (show ¬ p.start ≤ t by omega), Bool.false_and, Bool.false_or]
   exact ih
  ·by_cases h2 : p.fin < t
   ·have hz : (t :: l).filter (cand p) = [] := by
     rw [List.filter_eq_nil_iff]
     intro x hx
     have hx2 : p.fin < x := by
      rcases List.mem_cons.1 hx with rfl | hx
      ·exact h2
      ·have := hp.1 x hx; omega
     unfold cand; rw [decide_eq_false (show ¬ x ≤ p.fin by omega)]; simp
    have e : inner p (t :: l) left m = (true, left, m) := by rw [inner, if_neg h1, if_pos h2]
    rw [e, hz]
    refine ⟨by simp [lim_nil, met, upTo], ?_, fun h => by cases h⟩
    rw [List.any_cons, decide_eq_true (show p.start ≤ t by omega), decide_eq_true h2]; simp
   ·have hc : cand p t = true := by unfold cand; rw [decide_eq_true (by omega), decide_eq_true (show t ≤ p.fin by omega)]; rfl
    have hnf : (decide (p.start ≤ t) && decide (p.fin < t)) = false := by rw [decide_eq_false h2, Bool.and_false]
    rw [List.filter_cons_of_pos hc, List.any_cons, hnf, Bool.false_or]
    by_cases h3 : (ends p t || decide (left - 1 = 0)) = true
    ·have e : inner p (t :: l) left m = (true, left - 1, add p t m) := by rw [inner, if_neg h1, if_neg h2, if_pos h3]
     rw [e]
     have hst : stops p left (t :: l.filter (cand p)) = true := by
      unfold stops
      rw [Bool.or_eq_true, decide_eq_true_eq] at h3
      rcases h3 with h3 | h3
      ·rw [List.any_cons, h3]; simp
      ·rw [decide_eq_true (show 0 < left by omega), decide_eq_true (show left.toNat ≤ (t :: l.filter (cand p)).length by rw [List.length_cons]; omega)]; simp
     refine ⟨?_, by rw [hst]; rfl, fun h => by cases h⟩
     show add p t m = m ++ met p _
     rw [add_eq]
     congr 1
     unfold met
     by_cases h4 : left - 1 = 0
     ·rw [lim_one h4]
      have : upTo p [t] = [t] := by unfold upTo; split <;> rfl
      rw [this]
     ·have h5 : ends p t = true := by simpa [h4] using h3
      rw [lim_cons h4]
      show [t].filter (hit p) = (if ends p t = true then [t] else t :: upTo p _).filter (hit p)
      rw [if_pos h5]
    ·have e : inner p (t :: l) left m = inner p l (left - 1) (add p t m) := by rw [inner, if_neg h1, if_neg h2, if_neg h3]
     have h4 : ¬ left - 1 = 0 := fun h => h3 (by simp [h])
     have h5 : ends p t = false := by
      rw [← Bool.not_eq_true]; exact fun h => h3 (by simp [h])
     obtain ⟨i1, i2, i3⟩ := inner_eq p l (left - 1) (add p t m) hp.2
     rw [e]
     refine ⟨?_, ?_, fun h => ?_⟩
     ·rw [i1, add_eq, lim_cons h4, List.append_assoc]
      congr 1
      unfold met
      show _ = (if ends p t = true then [t] else t :: upTo p _).filter (hit p)
      rw [h5]
      rw [if_neg (by simp), List.filter_cons]
      by_cases h6 : hit p t = true <;> simp [h6]
     ·rw [i2]
      congr 1
      unfold stops
      rw [List.any_cons, h5, Bool.false_or]
      congr 1
      rw [List.length_cons]
      by_cases h6 : 0 < left
      ·rw [decide_eq_true h6, decide_eq_true (show 0 < left - 1 by omega), Bool.true_and, Bool.true_and]
       congr 1
       exact propext ⟨fun h => by omega, fun h => by omega⟩
      ·rw [decide_eq_false h6, decide_eq_false (show ¬ 0 < left - 1 by omega), Bool.false_and, Bool.false_and]
     ·rw [i3 h, List.length_cons]; omega
end Go.Proofs.YtkbohijlhhpfbaaGreatDoor.Rs
/- What a walk meets, by the list of all of a rule's instants: plain lists. -/
namespace Go.Proofs.YtkbohijlhhpfbaaGreatDoor.Rs
open Ru Xp
def cs (p : P) (last : Int) : Nat → Int → List Int
 | 0, _ => []
 | n + 1, i => if last < i then [] else ofE p.r p.start i ++ cs p last n (i + p.r.interval)
def Fine (p : P) : Prop := 0 ≤ p.r.freq ∧ chkR p.r = 0 ∧ 0 ≤ p.start ∧ p.start ≤ 315537897599 ∧ p.fin ≤ 315537897599
theorem head_ok {r : R} (hc : chkR r = 0) : 1 ≤ r.interval ∧ r.interval ≤ 1000 ∧ 0 ≤ r.count ∧ r.count ≤ 1000 := by
 have h : head r = 0 := by
  unfold chkR at hc
  by_cases h : head r = 0
  ·exact h
  ·rw [if_pos h] at hc; exact absurd hc h
 unfold head at h
 by_cases h1 : 6 < r.freq
 ·rw [if_pos h1] at h; omega
 ·rw [if_neg h1] at h
  split at h
  ·omega
  ·rename_i h2
   omega
abbrev Inp (p : P) (i : Int) : Prop := In p.r.freq p.r.wkst i
theorem picks_sub {ps l : List Int} {x : Int} (h : x ∈ picks ps l) : x ∈ l := by
 unfold picks picksTo at h
 obtain ⟨k, hk, rfl⟩ := List.mem_map.1 h
 obtain ⟨h1, -⟩ := List.mem_filter.1 hk
 rw [List.mem_range] at h1
 rw [List.getElem?_eq_getElem h1, Option.getD_some]
 exact List.getElem_mem h1
theorem picks_rise {ps l : List Int} (h : l.Pairwise (· < ·)) : (picks ps l).Pairwise (· < ·) := by
 unfold picks picksTo
 rw [List.pairwise_map]
 refine ((List.pairwise_lt_range (n := l.length)).filter _).imp_of_mem fun {a b} ha hb hab => ?_
 have h1 := List.mem_range.1 (List.mem_filter.1 ha).1
 have h2 := List.mem_range.1 (List.mem_filter.1 hb).1
 rw [List.getElem?_eq_getElem h1, List.getElem?_eq_getElem h2, Option.getD_some, Option.getD_some]
 exact List.pairwise_iff_getElem.1 h a b h1 h2 hab
theorem ofE_sub {r : R} {s i x : Int} (h : x ∈ ofE r s i) : x ∈ allE r s i := by
 unfold ofE at h
 split at h
 ·exact h
 ·exact picks_sub h
theorem ofE_rise (r : R) (s i : Int) : (ofE r s i).Pairwise (· < ·) := by
 unfold ofE
 split
 ·exact allE_rise r s i
 ·exact picks_rise (allE_rise r s i)
theorem ofE_in {p : P} (hF : Fine p) {i x : Int} (hi : Inp p i) (h : x ∈ ofE p.r p.start i) : fr p.r i ≤ x ∧ x < tt p.r i := by
 have hk := counts_ok hF.1 hF.2.1
 have hS := Xp.shape hF.1 hk hi.1 hi.2
 have h2 := ofE_sub h
 unfold allE at h2
 split at h2
 ·have := (mem_all (i := i) hF.1 hF.2.2.1 hF.2.2.2.1 hF.2.1 hS).1 h2
  exact ⟨this.1, this.2.1⟩
 ·cases h2
theorem inp_next {p : P} (hF : Fine p) {i : Int} (hi : Inp p i) (hl : ¬ lastP p < i + p.r.interval) : Inp p (i + p.r.interval) := by
 have := (head_ok hF.2.1).1
 exact ⟨by have := hi.1; omega, by unfold lastP at hl; omega⟩
theorem cs_from {p : P} (hF : Fine p) : ∀ (n : Nat) (i : Int), (lastP p < i ∨ Inp p i) → ∀ x ∈ cs p (lastP p) n i, fr p.r i ≤ x ∧ Inp p i
 | 0, _, _, x, hx => by simp [cs] at hx
 | n + 1, i, hi, x, hx => by
  rw [cs] at hx
  split at hx
  ·cases hx
  ·rename_i hl
   have hi2 : Inp p i := hi.resolve_left hl
   rcases List.mem_append.1 hx with h | h
   ·exact ⟨(ofE_in hF hi2 h).1, hi2⟩
   ·have hn : lastP p < i + p.r.interval ∨ Inp p (i + p.r.interval) := by
     by_cases h : lastP p < i + p.r.interval
     ·exact .inl h
     ·exact .inr (inp_next hF hi2 h)
    have ih := cs_from hF n _ hn x h
    have hk := counts_ok hF.1 hF.2.1
    have h1 := (head_ok hF.2.1).1
    have := later hF.1 hk hi2 ih.2 (by omega)
    have := Xp.frm_lt hF.1 hk hi2.1 hi2.2
    have := ih.1
    unfold fr at *
    exact ⟨by omega, hi2⟩
theorem next_or {p : P} (hF : Fine p) {i : Int} (hi : Inp p i) : lastP p < i + p.r.interval ∨ Inp p (i + p.r.interval) := by
 by_cases h : lastP p < i + p.r.interval
 ·exact .inl h
 ·exact .inr (inp_next hF hi h)
theorem cs_behind {p : P} (hF : Fine p) {n : Nat} {i : Int} (hi : Inp p i) : ∀ x ∈ cs p (lastP p) n (i + p.r.interval), tt p.r i ≤ x := fun x hx => by
 have ih := cs_from hF n _ (next_or hF hi) x hx
 have hk := counts_ok hF.1 hF.2.1
 have h1 := (head_ok hF.2.1).1
 have := later hF.1 hk hi ih.2 (by omega)
 have := ih.1
 unfold tt fr at *
 omega
theorem cs_rise {p : P} (hF : Fine p) : ∀ (n : Nat) (i : Int), (lastP p < i ∨ Inp p i) → (cs p (lastP p) n i).Pairwise (· < ·)
 | 0, _, _ => List.Pairwise.nil
 | n + 1, i, hi => by
  rw [cs]
  split
  ·exact List.Pairwise.nil
  ·rename_i hl
   have hi2 : Inp p i := hi.resolve_left hl
   rw [List.pairwise_append]
   refine ⟨ofE_rise _ _ _, cs_rise hF n _ (next_or hF hi2), fun x hx y hy => ?_⟩
   have h1 := ofE_in hF hi2 hx
   have h2 := cs_behind hF hi2 y hy
   omega
theorem lim_append {left : Int} {A B : List Int} (h : ¬ (0 < left ∧ left.toNat ≤ A.length)) : lim left (A ++ B) = A ++ lim (left - A.length) B := by
 unfold lim
 by_cases h0 : left ≤ 0
 ·rw [if_pos h0, if_pos (by omega)]
 ·rw [if_neg h0, if_neg (by omega), List.take_append, show (left - (A.length : Int)).toNat = left.toNat - A.length by omega, List.take_of_length_le (by omega)]
theorem lim_all {left : Int} {A : List Int} (h : ¬ (0 < left ∧ left.toNat ≤ A.length)) : lim left A = A := by
 have := lim_append (B := []) h
 rwa [List.append_nil, lim_nil, List.append_nil] at this
theorem lim_few {left : Int} {A B : List Int} (h : 0 < left ∧ left.toNat ≤ A.length) : lim left (A ++ B) = lim left A := by
 unfold lim
 rw [if_neg (by omega), if_neg (by omega), List.take_append_of_le_length h.2]
theorem met_none {p : P} {l : List Int} (h : ∀ x ∈ l, hit p x = false) : met p l = [] := by
 unfold met
 rw [List.filter_eq_nil_iff]
 have hsub : ∀ l, ∀ x ∈ upTo p l, x ∈ l := by
  intro l
  induction l with
  | nil => simp [upTo]
  | cons t l ih =>
   intro x hx
   unfold upTo at hx
   split at hx
   ·rw [List.mem_singleton] at hx; rw [hx]; exact List.mem_cons_self
   ·rcases List.mem_cons.1 hx with rfl | hx
    ·exact List.mem_cons_self
    ·exact List.mem_cons_of_mem _ (ih x hx)
 intro x hx
 rw [h x (hsub l x hx)]; simp
theorem lim_sub {left : Int} {l : List Int} {x : Int} (h : x ∈ lim left l) : x ∈ l := by
 unfold lim at h
 split at h
 ·exact h
 ·exact List.mem_of_mem_take h
theorem met_split {p : P} {A B : List Int} {left : Int} (h : stops p left A = false) : met p (lim left (A ++ B)) = A.filter (hit p) ++ met p (lim (left - A.length) B) := by
 unfold stops at h
 rw [Bool.or_eq_false_iff] at h
 have h2 : ¬ (0 < left ∧ left.toNat ≤ A.length) := by
  rintro ⟨a, b⟩
  rw [decide_eq_true a, decide_eq_true b] at h
  simp at h
 rw [lim_append h2]
 unfold met
 rw [upTo_append, h.1]
 simp
theorem met_stop {p : P} {A B : List Int} {left : Int} (h : stops p left A = true) : met p (lim left (A ++ B)) = met p (lim left A) := by
 by_cases h2 : 0 < left ∧ left.toNat ≤ A.length
 ·rw [lim_few h2]
 ·rw [lim_append h2, lim_all h2]
  unfold stops at h
  have h3 : A.any (ends p) = true := by
   rw [Bool.or_eq_true] at h
   rcases h with h | h
   ·exact h
   ·rw [Bool.and_eq_true, decide_eq_true_eq, decide_eq_true_eq] at h; exact absurd h h2
  unfold met
  rw [upTo_append, h3]; simp
theorem run_eq {p : P} (hF : Fine p) : ∀ (n : Nat) (i left used : Int) (m : List Int) (u : Int) (m' : List Int), (lastP p < i ∨ Inp p i) → (lastP p - i).toNat < n ∨ lastP p < i →
  run p (lastP p) n i left used m = some (u, m') → m' = m ++ met p (lim left ((cs p (lastP p) n i).filter (cand p)))
 | 0, i, left, used, m, u, m', hi, hn, h => by
  rw [run] at h
  cases h
  simp [cs, lim_nil, met, upTo]
 | n + 1, i, left, used, m, u, m', hi, hn, h => by
  rw [run] at h
  by_cases hl : lastP p < i
  ·rw [if_pos hl] at h
   cases h
   rw [cs, if_pos hl]
   simp [lim_nil, met, upTo]
  ·rw [if_neg hl] at h
   have hi2 : Inp p i := hi.resolve_left hl
   have hcs : cs p (lastP p) (n + 1) i = ofE p.r p.start i ++ cs p (lastP p) n (i + p.r.interval) := by rw [cs, if_neg hl]
   by_cases hb : p.b ≤ fr p.r i ∨ p.fin < fr p.r i
   ·rw [if_pos hb] at h
    cases h
    have : met p (lim left ((cs p (lastP p) (n + 1) i).filter (cand p))) = [] := by
     refine met_none fun x hx => ?_
     obtain ⟨h1, h2⟩ := List.mem_filter.1 (lim_sub hx)
     have h3 := (cs_from hF _ _ hi x h1).1
     unfold cand at h2
     simp only [Bool.and_eq_true, decide_eq_true_eq] at h2
     unfold hit
     rw [decide_eq_false (show ¬ x < p.b by omega), Bool.and_false]
    rw [this, List.append_nil]
   ·rw [if_neg hb] at h
    by_cases hs : p.budget < used + costE p.r p.start i
    ·rw [if_pos hs] at h; cases h
    ·rw [if_neg hs] at h
     obtain ⟨e1, e2, e3⟩ := inner_eq p (ofE p.r p.start i) left m (ofE_rise _ _ _)
     simp only at h
     rw [hcs, List.filter_append]
     generalize hA : (ofE p.r p.start i).filter (cand p) = A at *
     generalize hB : (cs p (lastP p) n (i + p.r.interval)).filter (cand p) = B at *
     by_cases hx : (inner p (ofE p.r p.start i) left m).1 = true
     ·rw [if_pos hx] at h
      cases h
      rw [e1]
      congr 1
      rw [hx] at e2
      by_cases hst : stops p left A = true
      ·rw [met_stop hst]
      ·have hst2 : stops p left A = false := by simpa using hst
       rw [hst2, Bool.false_or] at e2
       obtain ⟨y, hy, hy2⟩ := List.any_eq_true.1 e2.symm
       simp only [Bool.and_eq_true, decide_eq_true_eq] at hy2
       have hBn : B = [] := by
        rw [← hB, List.filter_eq_nil_iff]
        intro z hz
        have h1 := ofE_in hF hi2 hy
        have h2 := cs_behind hF hi2 z hz
        unfold cand
        rw [decide_eq_false (show ¬ z ≤ p.fin by omega)]; simp
       rw [hBn, List.append_nil]
     ·rw [if_neg hx] at h
      have hx2 : (inner p (ofE p.r p.start i) left m).1 = false := by simpa using hx
      rw [hx2] at e2
      have hst : stops p left A = false := by
       have := e2.symm
       rw [Bool.or_eq_false_iff] at this
       exact this.1
      have h1 := (head_ok hF.2.1).1
      have ih := run_eq hF n (i + p.r.interval) _ _ _ _ _ (next_or hF hi2) (by omega) h
      rw [e3 hx2, hB, e1] at ih
      rw [ih, met_split hst, List.append_assoc]
      congr 2
      have := met_split (B := []) hst
      rw [List.append_nil, lim_nil] at this
      rw [this]
      simp [met, upTo]
end Go.Proofs.YtkbohijlhhpfbaaGreatDoor.Rs
/- All of a rule's instants; what a walk meets of them: plain lists. -/
namespace Go.Proofs.YtkbohijlhhpfbaaGreatDoor.Rs
open Ru Xp
theorem step_of {n m k : Int} (n1 : 0 ≤ n) (n2 : n ≤ 315537897600) (m1 : 0 ≤ m) (m2 : m ≤ 315537897600) (k1 : 1 ≤ k) (k2 : k ≤ 1000) :
  n ≤ Pd.step n k m ∧ m ≤ Pd.step n k m ∧ ∃ q : Nat, Pd.step n k m = n + q * k ∧ ∀ j : Nat, j < q → n + j * k < m := by
 by_cases h : m ≤ n
 ·have e : Pd.step n k m = n := by unfold Pd.step; rw [if_neg (by omega), if_pos h]
  exact ⟨by omega, by omega, 0, by rw [e]; simp, fun j hj => by omega⟩
 ·have e : Pd.step n k m = n + (m - n + k - 1) / k * k := by unfold Pd.step; rw [if_neg (by omega), if_neg h]
  have b := Pd.up_bd (p := m - n) (k := k) (by omega) (by omega)
  have q0 : 0 ≤ (m - n + k - 1) / k := Int.ediv_nonneg (by omega) (by omega)
  refine ⟨by omega, by omega, ((m - n + k - 1) / k).toNat, by rw [e, Int.toNat_of_nonneg q0], fun j hj => ?_⟩
  have hj2 : (j : Int) + 1 ≤ (m - n + k - 1) / k := by omega
  have h3 : ((j : Int) + 1) * k ≤ (m - n + k - 1) / k * k := Int.mul_le_mul_of_nonneg_right hj2 (by omega)
  rw [Int.add_mul] at h3
  omega
theorem cs_more {p : P} {last : Int} (hk : 1 ≤ p.r.interval) : ∀ (n m : Nat) (i : Int), (last - i).toNat < n ∨ last < i → (last - i).toNat < m ∨ last < i → cs p last n i = cs p last m i
 | 0, 0, _, _, _ => rfl
 | 0, m + 1, i, h, _ => by
  have hl : last < i := by omega
  rw [cs, cs, if_pos hl]
 | n + 1, 0, i, _, h => by
  have hl : last < i := by omega
  rw [cs, cs, if_pos hl]
 | n + 1, m + 1, i, h, h' => by
  rw [cs, cs]
  split
  ·rfl
  ·rename_i hl
   rw [cs_more hk n m _ (by omega) (by omega)]
theorem cs_skip {p : P} (hF : Fine p) : ∀ (q n : Nat) (i : Int), (lastP p < i ∨ Inp p i) → (lastP p - i).toNat < n ∨ lastP p < i →
  ∃ E, cs p (lastP p) n i = E ++ cs p (lastP p) (fuel p (i + q * p.r.interval)) (i + q * p.r.interval) ∧ ∀ x ∈ E, ∃ j : Nat, j < q ∧ Inp p (i + j * p.r.interval) ∧ x < tt p.r (i + j * p.r.interval)
 | 0, n, i, hi, hn => by
  have h1 := (head_ok hF.2.1).1
  refine ⟨[], ?_, fun x hx => by cases hx⟩
  have e : i + ((0 : Nat) : Int) * p.r.interval = i := by simp
  rw [e, List.nil_append]
  exact cs_more h1 _ _ _ hn (by unfold fuel; omega)
 | q + 1, n, i, hi, hn => by
  have h1 := (head_ok hF.2.1).1
  have e : i + ((q + 1 : Nat) : Int) * p.r.interval = i + p.r.interval + (q : Int) * p.r.interval := by
   rw [Int.natCast_add, Int.add_mul]; omega
  rw [e]
  by_cases hl : lastP p < i
  ·have hq : 0 ≤ (q : Int) * p.r.interval := Int.mul_nonneg (by omega) (by omega)
   refine ⟨[], ?_, fun x hx => by cases hx⟩
   have z1 : cs p (lastP p) n i = [] := by cases n with
    | zero => rfl
    | succ n => rw [cs, if_pos hl]
   have z2 : cs p (lastP p) (fuel p (i + p.r.interval + (q : Int) * p.r.interval)) (i + p.r.interval + (q : Int) * p.r.interval) = [] := by
    unfold fuel; rw [cs, if_pos (by omega)]
   rw [z1, z2]; rfl
  ·have hi2 : Inp p i := hi.resolve_left hl
   obtain ⟨n, rfl⟩ : ∃ m, n = m + 1 := ⟨n - 1, by omega⟩
   obtain ⟨E, hE, hE2⟩ := cs_skip hF q n (i + p.r.interval) (next_or hF hi2) (by omega)
   refine ⟨ofE p.r p.start i ++ E, by rw [cs, if_neg hl, hE, List.append_assoc], fun x hx => ?_⟩
   rcases List.mem_append.1 hx with h | h
   ·exact ⟨0, by omega, by simpa using hi2, by simpa using (ofE_in hF hi2 h).2⟩
   ·obtain ⟨j, hj, hj2, hj3⟩ := hE2 x h
    have e2 : i + ((j + 1 : Nat) : Int) * p.r.interval = i + p.r.interval + (j : Int) * p.r.interval := by
     rw [Int.natCast_add, Int.add_mul]; omega
    exact ⟨j + 1, by omega, by rw [e2]; exact hj2, by rw [e2]; exact hj3⟩
def rul (p : P) : List Int := lim p.r.count ((cs p (lastP p) (fuel p (first p)) (first p)).filter (cand p))
theorem first_in {p : P} (hF : Fine p) : Inp p (first p) := index_in hF.1 (counts_ok hF.1 hF.2.1) hF.2.2.1 hF.2.2.2.1
theorem idx_small {p : P} (hF : Fine p) {i : Int} (hi : Inp p i) : 0 ≤ i ∧ i ≤ 315537897600 := by
 have hk := counts_ok hF.1 hF.2.1
 obtain ⟨r0, r1, r2, r3, r4, r5, r6⟩ := Pd.idx_rng hk hF.1 hi.1 hi.2
 have := (Pd.counts_iff _ _).1 hk
 have f0 := hF.1
 have hf : p.r.freq = 0 ∨ p.r.freq = 1 ∨ p.r.freq = 2 ∨ p.r.freq = 3 ∨ p.r.freq = 4 ∨ p.r.freq = 5 ∨ p.r.freq = 6 := by omega
 rcases hf with h | h | h | h | h | h | h
 ·have := r0 h; omega
 ·have := r1 h; omega
 ·have := r2 h; omega
 ·have := r3 h; omega
 ·have := r4 h; omega
 ·have := r5 h; omega
 ·have := r6 h; omega
theorem met_skip {p : P} {A B : List Int} (h : ∀ x ∈ A, hit p x = false) : met p (A ++ B) = met p B := by
 have ha : A.any (ends p) = false := by
  rw [List.any_eq_false]
  intro x hx
  unfold ends; rw [h x hx]; simp
 unfold met
 rw [upTo_append, ha, if_neg (by simp), List.filter_append]
 have : A.filter (hit p) = [] := by rw [List.filter_eq_nil_iff]; intro x hx; rw [h x hx]; simp
 rw [this, List.nil_append]
theorem walk_eq {p : P} (hF : Fine p) (h0 : 0 ≤ p.a) {u : Int} {m : List Int} (h : walk p = some (u, m)) : m = met p (rul p) := by
 have hk := counts_ok hF.1 hF.2.1
 obtain ⟨k1, k2, c0, -⟩ := head_ok hF.2.1
 have h1 := first_in hF
 unfold walk begin at h
 by_cases hc : 0 < p.r.count
 ·rw [if_pos hc] at h
  have := run_eq hF _ _ _ _ _ _ _ (.inr h1) (.inl (by unfold fuel; omega)) h
  rw [this, List.nil_append]; rfl
 ·have hcz : p.r.count = 0 := by omega
  rw [if_neg hc] at h
  by_cases hm : 315537897599 < max p.a p.start
  ·rw [if_pos hm] at h
   cases h
   have ha : 315537897599 < p.a := by have := hF.2.2.2.1; omega
   symm
   refine met_none fun x hx => ?_
   have hx2 := List.mem_filter.1 (lim_sub hx)
   have hx3 := hx2.2
   unfold cand at hx3
   simp only [Bool.and_eq_true, decide_eq_true_eq] at hx3
   have := hF.2.2.2.2
   unfold hit
   rw [decide_eq_false (show ¬ p.a ≤ x by omega), Bool.false_and]
  ·rw [if_neg hm] at h
   have ht0 : 0 ≤ max p.a p.start := by have := hF.2.2.1; omega
   have ht1 : max p.a p.start ≤ 315537897599 := by omega
   have hI := index_in hF.1 hk ht0 ht1
   have b1 := idx_small hF h1
   have b2 := idx_small hF (i := Pd.index p.r.freq p.r.wkst (max p.a p.start)) hI
   obtain ⟨s1, s2, q, s3, s4⟩ := step_of b1.1 b1.2 b2.1 b2.2 k1 k2
   have hor : lastP p < Pd.step (first p) p.r.interval (Pd.index p.r.freq p.r.wkst (max p.a p.start)) ∨ Inp p (Pd.step (first p) p.r.interval (Pd.index p.r.freq p.r.wkst (max p.a p.start))) := by
    by_cases hh : lastP p < Pd.step (first p) p.r.interval (Pd.index p.r.freq p.r.wkst (max p.a p.start))
    ·exact .inl hh
    ·exact .inr ⟨by have := h1.1; omega, by unfold lastP at hh; omega⟩
   have := run_eq hF _ _ _ _ _ _ _ hor (.inl (by unfold fuel; omega)) h
   rw [this, List.nil_append]
   unfold rul
   rw [hcz]
   obtain ⟨E, hE, hE2⟩ := cs_skip hF q (fuel p (first p)) (first p) (.inr h1) (.inl (by unfold fuel; omega))
   rw [hE, s3]
   have hl : ∀ l, lim 0 l = l := fun l => by unfold lim; rw [if_pos (by omega)]
   rw [hl, hl, List.filter_append, met_skip]
   intro x hx
   obtain ⟨x1, x2⟩ := List.mem_filter.1 hx
   obtain ⟨j, hj, hj2, hj3⟩ := hE2 x x1
   have hlt := s4 j hj
   have hlater := later hF.1 hk hj2 hI hlt
   have hp := Pd.parts hk hF.1 ht0 ht1
   have hp2 := hp.2.1
   unfold cand at x2
   simp only [Bool.and_eq_true, decide_eq_true_eq] at x2
   unfold tt at hj3
   unfold hit
   rw [decide_eq_false (show ¬ p.a ≤ x by omega), Bool.false_and]
end Go.Proofs.YtkbohijlhhpfbaaGreatDoor.Rs

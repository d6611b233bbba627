import Derived.Test.YtkbohijlhhpfbaaGreatDoorTl
/- Whether a second passes, by the document's answer: the walk through errandref24's Passes; both sides are one (printed by gen_rpass.py). -/
namespace Go.Proofs.YtkbohijlhhpfbaaGreatDoor.Tm
open Go.RowKit Ru Ut Cw Ra
def rpassT (r : R) (start t : Int) : Bool := mayT r start && (decide (0 ≤ t) && (decide (t < 86400) && (hOk r start (t / 3600) && (mOk r start (t / 60 % 60) && sOk r start (t % 60)))))
theorem lists_eq {r : R} {start : Int} (hm : mayT r start = true) : hourL r start = hF r start 24 ∧ minL r start = mF r start 60 ∧ secL r start = sF r start 60 := by
  obtain ⟨h0, h1, hc⟩ := may_parts hm
  obtain ⟨f1, f2, f3⟩ := fine_of hc
  refine ⟨ch_filter f1 (by omega) (by omega), ?_, ch_filter f3 (by omega) (by omega)⟩
  unfold minL mF
  rw [ch_filter f2 (by omega) (by omega)]
  have : start % 86400 / 60 % 60 = start / 60 % 60 := by omega
  rw [this]
  rfl
theorem in_filter {p : Int → Bool} {n : Nat} {x : Int} (h0 : 0 ≤ x) (h1 : x < n) : decide (x ∈ (upI n).filter p) = p x := by
  rw [Bool.eq_iff_iff, decide_eq_true_iff, List.mem_filter, upI_mem]
  exact ⟨fun h => h.2, fun h => ⟨⟨h0, h1⟩, h⟩⟩
theorem pass_eq (r : R) (start t : Int) : passT r start t = rpassT r start t := by
  unfold passT rpassT
  cases hm : mayT r start
  · rfl
  · obtain ⟨e1, e2, e3⟩ := lists_eq hm
    by_cases h0 : 0 ≤ t
    · by_cases h1 : t < 86400
      · rw [e1, e2, e3]
        unfold hF mF sF
        rw [in_filter (by omega) (by omega), in_filter (by omega) (by omega), in_filter (by omega) (by omega)]
      · rw [decide_eq_false h1]; simp
    · rw [decide_eq_false h0]; simp
theorem hour_skip {a b h : Int} {ms ss : List Int} (hms : ∀ x ∈ ms, 0 ≤ x ∧ x < 60) (hss : ∀ x ∈ ss, 0 ≤ x ∧ x < 60) : hourOut a b h ms ss = minOut a b h ms ss := by
  unfold hourOut
  split
  · rename_i hs
    symm
    unfold minOut
    rw [List.flatMap_eq_nil_iff]
    intro m hm
    unfold secOut
    rw [List.filter_eq_nil_iff]
    intro x hx
    obtain ⟨s, hs2, rfl⟩ := List.mem_map.1 hx
    have := hms m hm
    have := hss s hs2
    simp
    omega
  · rfl
theorem day_eq {a b : Int} {hs ms ss : List Int} (hms : ∀ x ∈ ms, 0 ≤ x ∧ x < 60) (hss : ∀ x ∈ ss, 0 ≤ x ∧ x < 60) : dayOut a b hs ms ss = hs.flatMap fun h => minOut a b h ms ss := by
  unfold dayOut
  congr 1
  funext h
  exact hour_skip hms hss
theorem filt_in (p : Int → Bool) (n : Nat) : ∀ x ∈ (upI n).filter p, 0 ≤ x ∧ x < n := fun _ hx => upI_mem.1 (List.mem_filter.1 hx).1
theorem secs_eq (r : R) (start a b : Int) : secsOf r start a b = rsecs r start a b := by
  unfold secsOf rsecs
  split
  · rename_i h
    obtain ⟨e1, e2, e3⟩ := lists_eq h.1
    unfold secs
    rw [e1, e2, e3]
    exact day_eq (filt_in _ _) (filt_in _ _)
  · rfl
end Go.Proofs.YtkbohijlhhpfbaaGreatDoor.Tm

/- What every right program lets pass of a day: the walk through errandlaw24's awake (printed by gen_tawake.py). -/
namespace Go.Proofs.YtkbohijlhhpfbaaGreatDoor.Tm
open Go.RowKit Ru Ut Cw Ra
theorem OwnI.pos {w : World} {B : Nat} {v : Value} {l : List Int} (h : OwnI w B v l) (h0 : 0 < l.length) : ∃ b cap, v = .slice (some ⟨b, 0, none⟩) l.length cap ∧ b < w.heap.size ∧ ∀ i z, l[i]? = some z → w.cell? ⟨b, i, none⟩ = some (.int .i64 z) := by
  obtain ⟨g, cap, rfl, hb, hg, hc, _, hcell⟩ := ownsRow_pos h h0
  exact ⟨g, cap, rfl, hg, fun i z hz => hcell i _ (by unfold ic; rw [List.getElem?_map, hz]; rfl)⟩
def ruleA : R := { freq := 3, interval := 1, count := 0, uk := 0, us := 0, sec := [], min := [], hour := [17, 9], day := [], mday := [], yday := [], weekno := [], month := [], setpos := [], wkst := 0 }
def ruleZ : R := { freq := 0, interval := 0, count := 0, uk := 0, us := 0, sec := [], min := [], hour := [], day := [], mday := [], yday := [], weekno := [], month := [], setpos := [], wkst := 0 }
def svA (b : Nat) (q : Nat) : Value := if q = 6 then .slice (some ⟨b, 0, none⟩) 2 2 else .slice none 0 0
def svZ (_ : Nat) : Value := .slice none 0 0
theorem nilI (W : World) : Ints W (.slice none 0 0) [] := .inl ⟨rfl, none, 0, rfl, fun _ => rfl⟩
theorem nilD (W : World) : Days W (.slice none 0 0) [] := .inl ⟨rfl, none, 0, rfl, fun _ => rfl⟩
theorem q_cases {P : Nat → Prop} (h4 : P 4) (h5 : P 5) (h6 : P 6) (h8 : P 8) (h9 : P 9) (h10 : P 10) (h11 : P 11) (h12 : P 12) : ∀ q, 4 ≤ q → q ≤ 12 → q ≠ 7 → P q := fun q a b c => by
  have hc : q = 4 ∨ q = 5 ∨ q = 6 ∨ q = 8 ∨ q = 9 ∨ q = 10 ∨ q = 11 ∨ q = 12 := by omega
  rcases hc with rfl | rfl | rfl | rfl | rfl | rfl | rfl | rfl <;> assumption
theorem wideA : Wide ruleA := ⟨⟨q_cases (by decide) (by decide) (by decide) (by decide) (by decide) (by decide) (by decide) (by decide), by decide⟩, by decide, q_cases (by simp [lst, ruleA]) (by simp [lst, ruleA]) (by intro x hx; simp [lst, ruleA] at hx; rcases hx with rfl | rfl <;> decide) (by simp [lst, ruleA]) (by simp [lst, ruleA]) (by simp [lst, ruleA]) (by simp [lst, ruleA]) (by simp [lst, ruleA])⟩
theorem wideZ : Wide ruleZ := ⟨⟨q_cases (by decide) (by decide) (by decide) (by decide) (by decide) (by decide) (by decide) (by decide), by decide⟩, by decide, q_cases (by simp [lst, ruleZ]) (by simp [lst, ruleZ]) (by simp [lst, ruleZ]) (by simp [lst, ruleZ]) (by simp [lst, ruleZ]) (by simp [lst, ruleZ]) (by simp [lst, ruleZ]) (by simp [lst, ruleZ])⟩
theorem listsA {W : World} {b : Nat} (hb : b < W.heap.size) (c0 : W.cell? ⟨b, 0, none⟩ = some (.int .i64 17)) (c1 : W.cell? ⟨b, 1, none⟩ = some (.int .i64 9)) : Lists W ruleA (svA b) :=
  ⟨q_cases (nilI W) (nilI W) (.inr ⟨by decide, b, 0, 2, rfl, hb, by decide, fun i hi => by
    have hi2 : i < 2 := hi
    match i, hi2 with
    | 0, _ => exact c0
    | 1, _ => exact c1⟩) (nilI W) (nilI W) (nilI W) (nilI W) (nilI W), nilD W⟩
theorem listsZ (W : World) : Lists W ruleZ svZ := ⟨q_cases (nilI W) (nilI W) (nilI W) (nilI W) (nilI W) (nilI W) (nilI W) (nilI W), nilD W⟩
theorem awk1 : secsOf ruleA 30600 0 86400 = [34200, 63000] := by rw [secs_eq]; decide +kernel
theorem awk2 : (secsOf ruleA 0 0 86400).length = 2 := by rw [secs_eq]; decide +kernel
theorem awk3 : passT ruleA 5 32405 = true := by rw [pass_eq]; decide +kernel
theorem awk4 : passT ruleA 5 32400 = false := by rw [pass_eq]; decide +kernel
theorem awk5 : passT ruleZ 0 0 = false := by rw [pass_eq]; decide +kernel
end Go.Proofs.YtkbohijlhhpfbaaGreatDoor.Tm


import Derived.Test.YtkbohijlhhpfbaaGreatDoorXe
import Derived.Test.YtkbohijlhhpfbaaGreatDoorXa
import Derived.Test.YtkbohijlhhpfbaaGreatDoorFb
/- What a period has: the plain law of Each, Member and Picks. -/
namespace Go.Proofs.YtkbohijlhhpfbaaGreatDoor.Xp
open Ru
theorem counts_ok {r : R} (f0 : 0 ≤ r.freq) (hc : chkR r = 0) : Pd.counts r.freq r.wkst = true := by
  have h : head r = 0 := by
    unfold chkR at hc
    by_cases h : head r = 0
    · exact h
    · rw [if_pos h] at hc; exact absurd hc h
  unfold head at h
  rw [Pd.counts_iff]
  by_cases h1 : 6 < r.freq
  · rw [if_pos h1] at h; omega
  · rw [if_neg h1] at h
    split at h
    · omega
    · rename_i h2
      omega
/-- the stretch of a second's period -/
theorem at_sec {r : R} {t i : Int} (f0 : 0 ≤ r.freq) (hc : chkR r = 0) (h0 : 0 ≤ t) (h1 : t ≤ 315537897599) (hi : i = Pd.index r.freq r.wkst t) : Shape r.freq (fr r i) (tt r i) ∧ fr r i ≤ t ∧ t < tt r i := by
  have hk := counts_ok f0 hc
  have hp := Pd.parts hk f0 h0 h1
  obtain ⟨b0, b1, b2⟩ := Pd.index_bd hk f0 h0 h1
  subst hi
  exact ⟨shape f0 hk b1 b2, hp.2.1, hp.2.2.1⟩
theorem okE_iff {r : R} {s i : Int} : okE r s i = true ↔ (0 ≤ s ∧ s ≤ 315537897599 ∧ chkR r = 0) ∧ fr r i < tt r i := by
  unfold okE Tm.mayT; simp
theorem mem_dys {r : R} {s i x : Int} (s0 : 0 ≤ s) (s1 : s ≤ 315537897599) (hc : chkR r = 0) (hS : Shape r.freq (fr r i) (tt r i)) : x ∈ dys r s i ↔ fr r i / 86400 ≤ x ∧ x < (tt r i + 86399) / 86400 ∧ Dy.lets r (Dy.about (s / 86400)) (Dy.about x) = true := by
  obtain ⟨h1, h2, h3, h4, h5, h6⟩ := hS
  have hd : Civ.isDay (s / 86400) = true := (Civ.isDay_iff _).2 (by omega)
  unfold dys Dy.daysOf
  rw [if_neg (by rw [hd]; simp only [ne_eq, Bool.true_eq_false, or_false]; omega), days_mem]
  rw [show fr r i / 86400 + (((tt r i + 86399) / 86400 - fr r i / 86400).toNat : Int) = (tt r i + 86399) / 86400 by omega]
theorem passes_lets {r : R} {s x : Int} (s0 : 0 ≤ s) (s1 : s ≤ 315537897599) (hc : chkR r = 0) (x0 : 0 ≤ x) (x1 : x ≤ 3652058) : Dy.passes r s x = Dy.lets r (Dy.about (s / 86400)) (Dy.about x) := by
  unfold Dy.passes
  rw [(Civ.isDay_iff _).2 ⟨x0, x1⟩, (Civ.isDay_iff (s / 86400)).2 (by omega), decide_eq_true s0, decide_eq_true hc]; simp
theorem dys_rise (r : R) (s i : Int) : (dys r s i).Pairwise (· < ·) := by
  unfold dys Dy.daysOf
  split
  · exact List.Pairwise.nil
  · exact days_rise _ _ _ _
theorem mem_secs {r : R} {s a b x : Int} (ha : 0 ≤ a) (hab : a ≤ b) (hb : b ≤ 86400) : x ∈ Tm.secsOf r s a b ↔ a ≤ x ∧ x < b ∧ Tm.passT r s x = true := by
  rw [Tm.secs_one r ha hab hb]
  unfold Tm.one
  rw [List.mem_filter, Tm.rng_mem, show a + ((b - a).toNat : Int) = b by omega, and_assoc]
theorem secs_rise (r : R) (s a b : Int) : (Tm.secsOf r s a b).Pairwise (· < ·) := by
  rw [Tm.secs_eq]
  unfold Tm.rsecs
  split
  · exact Tm.rise_RH _ _ _ _ _
  · exact List.Pairwise.nil
theorem tms_rise (r : R) (s i : Int) : (tmsP r s i).Pairwise (· < ·) := by
  unfold tmsP tms
  split
  · exact List.Pairwise.nil
  · split <;> exact secs_rise _ _ _ _
theorem allE_rise (r : R) (s i : Int) : (allE r s i).Pairwise (· < ·) := by
  unfold allE
  split
  · exact allOf_rise (dys_rise r s i) (tms_rise r s i) fun t ht => tms_bd ht
  · exact List.Pairwise.nil
theorem mem_all {r : R} {s i x : Int} (f0 : 0 ≤ r.freq) (s0 : 0 ≤ s) (s1 : s ≤ 315537897599) (hc : chkR r = 0) (hS : Shape r.freq (fr r i) (tt r i)) :
    x ∈ allOf (dys r s i) (tmsP r s i) ↔ fr r i ≤ x ∧ x < tt r i ∧ Dy.passes r s (x / 86400) = true ∧ Tm.passT r s (x % 86400) = true := by
  have hS0 := hS
  obtain ⟨h1, h2, h3, h4, h5, h6⟩ := hS0
  rw [mem_allOf]
  constructor
  · rintro ⟨d, hd, u, hu, rfl⟩
    obtain ⟨d1, d2⟩ := dys_bd hd
    obtain ⟨u1, u2⟩ := tms_bd hu
    rw [mem_dys s0 s1 hc hS] at hd
    have e1 : (d * 86400 + u) / 86400 = d := by omega
    have e2 : (d * 86400 + u) % 86400 = u := by omega
    rw [e1, e2, passes_lets s0 s1 hc d1 d2]
    unfold tmsP tms at hu
    split at hu
    · cases hu
    · by_cases hf : 3 ≤ r.freq
      · rw [if_pos hf, mem_secs (by omega) (by omega) (by omega)] at hu
        have := h5 hf
        exact ⟨by omega, by omega, hd.2.2, hu.2.2⟩
      · have := h4 (by omega)
        rw [if_neg hf, mem_secs (by omega) (by omega) (by omega)] at hu
        exact ⟨by omega, by omega, hd.2.2, hu.2.2⟩
  · rintro ⟨x0, x1, hp, ht⟩
    rw [passes_lets s0 s1 hc (by omega) (by omega)] at hp
    have hd : x / 86400 ∈ dys r s i := (mem_dys s0 s1 hc hS).2 ⟨by omega, by omega, hp⟩
    refine ⟨x / 86400, hd, x % 86400, ?_, by omega⟩
    unfold tmsP tms
    rw [if_neg (fun h => by have := List.length_pos_of_mem hd; omega)]
    by_cases hf : 3 ≤ r.freq
    · rw [if_pos hf, mem_secs (by omega) (by omega) (by omega)]
      exact ⟨by omega, by omega, ht⟩
    · have := h4 (by omega)
      rw [if_neg hf, mem_secs (by omega) (by omega) (by omega)]
      exact ⟨by omega, by omega, ht⟩
theorem costE_eq {r : R} {s i : Int} (ho : okE r s i = true) : costE r s i = ((dys r s i).length * (tmsP r s i).length : Nat) + 1 := by unfold costE; rw [if_pos ho, Int.natCast_mul]
theorem allE_eq {r : R} {s i : Int} (ho : okE r s i = true) (h : costE r s i ≤ 4000) : allE r s i = allOf (dys r s i) (tmsP r s i) := by
  rw [costE_eq ho] at h
  unfold allE
  rw [if_pos ⟨ho, by omega⟩]
theorem allE_big {r : R} {s i : Int} (h : 4000 < costE r s i) : allE r s i = [] := by
  unfold allE
  rw [if_neg]
  rintro ⟨ho, h2⟩
  rw [costE_eq ho] at h
  omega
theorem none_of {r : R} {s i : Int} (hc : ¬ chkR r = 0) : okE r s i = false := by
  rw [← Bool.not_eq_true, okE_iff]; exact fun h => hc h.1.2.2
theorem costE_none {r : R} {s i : Int} (ho : okE r s i = false) : costE r s i = 0 := by unfold costE; rw [if_neg (by rw [ho]; simp)]
theorem allE_none {r : R} {s i : Int} (ho : okE r s i = false) : allE r s i = [] := by unfold allE; rw [if_neg (by rw [ho]; simp)]
theorem ofE_nil {r : R} {s i : Int} (h : allE r s i = []) : ofE r s i = [] := by
  unfold ofE
  rw [h]
  split <;> rfl
/-- what is to be shown of Each -/
theorem each_law {r : R} {s t i : Int} (f0 : 0 ≤ r.freq) (s0 : 0 ≤ s) (s1 : s ≤ 315537897599) (t0 : 0 ≤ t) (t1 : t ≤ 315537897599) (hc : chkR r = 0) (hi : i = Pd.index r.freq r.wkst t) :
    1 ≤ costE r s i ∧ (costE r s i ≤ 4000 → ((allE r s i).length : Int) = costE r s i - 1) ∧ (4000 < costE r s i → (allE r s i).length = 0) ∧ ∀ x ∈ allE r s i, fr r i ≤ x ∧ x < tt r i ∧ Dy.passes r s (x / 86400) = true ∧ Tm.passT r s (x % 86400) = true := by
  obtain ⟨hS, h1, h2⟩ := at_sec f0 hc t0 t1 hi
  have ho : okE r s i = true := okE_iff.2 ⟨⟨s0, s1, hc⟩, by omega⟩
  refine ⟨by rw [costE_eq ho]; omega, fun h => ?_, fun h => by rw [allE_big h]; rfl, fun x hx => ?_⟩
  · rw [allE_eq ho h, allOf_length, costE_eq ho]; omega
  · by_cases h : costE r s i ≤ 4000
    · rw [allE_eq ho h] at hx
      exact (mem_all f0 s0 s1 hc hS).1 hx
    · rw [allE_big (by omega)] at hx; cases hx
theorem member_law {r : R} {s t i : Int} (f0 : 0 ≤ r.freq) (s0 : 0 ≤ s) (s1 : s ≤ 315537897599) (t0 : 0 ≤ t) (t1 : t ≤ 315537897599) (hi : i = Pd.index r.freq r.wkst t) (h : costE r s i ≤ 4000) :
    decide (t ∈ allE r s i) = (Dy.passes r s (t / 86400) && Tm.passT r s (t % 86400)) := by
  by_cases hc : chkR r = 0
  · obtain ⟨hS, h1, h2⟩ := at_sec f0 hc t0 t1 hi
    have ho : okE r s i = true := okE_iff.2 ⟨⟨s0, s1, hc⟩, by omega⟩
    rw [allE_eq ho h, Bool.eq_iff_iff, decide_eq_true_iff, mem_all f0 s0 s1 hc hS, Bool.and_eq_true]
    exact ⟨fun hh => hh.2.2, fun hh => ⟨h1, h2, hh⟩⟩
  · rw [allE_none (none_of hc)]
    have : Dy.passes r s (t / 86400) = false := by unfold Dy.passes; rw [decide_eq_false hc]; simp
    rw [this]; simp
theorem setpos_nz {r : R} (hc : chkR r = 0) : ∀ x ∈ r.setpos, x ≠ 0 := by
  have h := Tm.err_zero (Tm.chk_errs hc) 12 (by decide) (by decide)
  unfold err at h
  rw [if_neg (by decide)] at h
  obtain ⟨h1, h2, -⟩ := Tm.wrong_zero h
  intro x hx h0
  have hb := h2 x hx
  subst h0
  revert hb
  decide
theorem picks_len (ps l : List Int) : (picks ps l).length = (ats l.length ps).length := by rw [← picks_eq, List.length_map, Tm.sortI_length]
theorem mem_picks {ps l : List Int} {p : Int} (hp : p ∈ ps) (h : inr l.length p = true) : l[(place l.length p).toNat]?.getD 0 ∈ picks ps l := by
  unfold inr at h
  simp only [Bool.and_eq_true, decide_eq_true_eq] at h
  rw [← picks_eq]
  exact List.mem_map.2 ⟨_, Tm.sortI_mem.2 (mem_ats.2 ⟨h, p, hp, rfl⟩), rfl⟩
theorem picks_law (ps l : List Int) : (picks ps l).length ≤ cnt l.length ps ∧ (cnt l.length ps = 0 ∨ 0 < (picks ps l).length) ∧ (1 < ps.length ∨ ps.length = 0 ∨ (picks ps l).length = cnt l.length ps) := by
  rw [picks_len]
  refine ⟨ats_cnt _ _, ?_, ?_⟩
  · by_cases h : cnt l.length ps = 0
    · exact .inl h
    · exact .inr (ats_pos (by omega))
  · by_cases h : cnt l.length ps = 0
    · have := ats_cnt l.length ps
      exact .inr (.inr (by omega))
    · have h1 := ats_pos (n := l.length) (ps := ps) (by omega)
      have h2 := ats_cnt l.length ps
      have h3 := cnt_le l.length ps
      by_cases h4 : 1 < ps.length
      · exact .inl h4
      · exact .inr (.inr (by omega))
end Go.Proofs.YtkbohijlhhpfbaaGreatDoor.Xp

/- What every right program tells of the working days of a month: the walk through errandlaw25's awake (printed by gen_xawake.py). -/
namespace Go.Proofs.YtkbohijlhhpfbaaGreatDoor.Xp
open Go.RowKit Ru Ut Cw Ra
def rA : R := { freq := 5, interval := 1, count := 0, uk := 0, us := 0, sec := [], min := [], hour := [9, 17], day := [(0, 0), (0, 1), (0, 2), (0, 3), (0, 4)], mday := [], yday := [], weekno := [], month := [], setpos := [-1, 2], wkst := 0 }
def rZ : R := { freq := 0, interval := 0, count := 0, uk := 0, us := 0, sec := [], min := [], hour := [], day := [], mday := [], yday := [], weekno := [], month := [], setpos := [], wkst := 0 }
def svA (b : Nat) (q : Nat) : Value := if q = 6 then .slice (some ⟨b, 0, none⟩) 2 2 else if q = 7 then .slice (some ⟨b + 1, 0, none⟩) 5 5 else if q = 12 then .slice (some ⟨b + 1 + 1, 0, none⟩) 2 2 else .slice none 0 0
theorem wideA : Wide rA := ⟨⟨Da.q_cases (by decide) (by decide) (by decide) (by decide) (by decide) (by decide) (by decide) (by decide), by decide⟩, by decide, Da.q_cases (by simp [lst, rA]) (by simp [lst, rA]) (by intro x hx; simp [lst, rA] at hx; rcases hx with rfl | rfl <;> decide) (by simp [lst, rA]) (by simp [lst, rA]) (by simp [lst, rA]) (by simp [lst, rA]) (by intro x hx; simp [lst, rA] at hx; rcases hx with rfl | rfl <;> decide)⟩
theorem wideZ : Wide rZ := ⟨⟨Da.q_cases (by decide) (by decide) (by decide) (by decide) (by decide) (by decide) (by decide) (by decide), by decide⟩, by decide, Da.q_cases (by simp [lst, rZ]) (by simp [lst, rZ]) (by simp [lst, rZ]) (by simp [lst, rZ]) (by simp [lst, rZ]) (by simp [lst, rZ]) (by simp [lst, rZ]) (by simp [lst, rZ])⟩
theorem two_ints {W : World} {b : Nat} {x y : Int} (hb : b < W.heap.size) (c0 : W.cell? ⟨b, 0, none⟩ = some (.int .i64 x)) (c1 : W.cell? ⟨b, 1, none⟩ = some (.int .i64 y)) : Ints W (.slice (some ⟨b, 0, none⟩) 2 2) [x, y] :=
    .inr ⟨by simp, b, 0, 2, rfl, hb, by simp, fun i hi => by
    have hi2 : i < 2 := hi
    match i, hi2 with
    | 0, _ => exact c0
    | 1, _ => exact c1⟩
theorem listsA {W : World} {b : Nat} (hb : b + 1 + 1 < W.heap.size) (c0 : W.cell? ⟨b, 0, none⟩ = some (.int .i64 9)) (c1 : W.cell? ⟨b, 1, none⟩ = some (.int .i64 17))
    (d : ∀ i v, (#[.int .i64 0, .int .i64 0, .int .i64 0, .int .i64 1, .int .i64 0, .int .i64 2, .int .i64 0, .int .i64 3, .int .i64 0, .int .i64 4] : Array Value)[i]? = some v → W.cell? ⟨b + 1, i, none⟩ = some v) (e0 : W.cell? ⟨b + 1 + 1, 0, none⟩ = some (.int .i64 (-1))) (e1 : W.cell? ⟨b + 1 + 1, 1, none⟩ = some (.int .i64 2)) : Lists W rA (svA b) :=
  ⟨Da.q_cases (Da.nilI W) (Da.nilI W) (two_ints (by omega) c0 c1) (Da.nilI W) (Da.nilI W) (Da.nilI W) (Da.nilI W) (two_ints hb e0 e1), .inr ⟨by decide, b + 1, 0, 5, rfl, by omega, by decide, fun i hi => by
    have hi2 : i < 5 := hi
    match i, hi2 with
    | 0, _ => exact ⟨d 0 _ rfl, d 1 _ rfl⟩
    | 1, _ => exact ⟨d 2 _ rfl, d 3 _ rfl⟩
    | 2, _ => exact ⟨d 4 _ rfl, d 5 _ rfl⟩
    | 3, _ => exact ⟨d 6 _ rfl, d 7 _ rfl⟩
    | 4, _ => exact ⟨d 8 _ rfl, d 9 _ rfl⟩⟩⟩
theorem listsZ (W : World) : Lists W rZ Da.svN := Da.listsN W rZ (Da.q_cases rfl rfl rfl rfl rfl rfl rfl rfl) rfl
theorem aw1 : costE rA 0 24288 = 47 := by
  unfold costE tmsP tms
  simp only [Tm.secs_eq]
  decide +kernel
theorem aw2 : (allE rA 0 24288).length = 46 := by
  unfold allE tmsP tms
  simp only [Tm.secs_eq]
  decide +kernel
theorem aw3 : ofE rA 0 24288 = [63839725200, 63842317200] := by
  unfold ofE allE tmsP tms
  simp only [Tm.secs_eq]
  decide +kernel
theorem aw4 : costE rZ 0 0 = 0 := by
  unfold costE tmsP tms
  simp only [Tm.secs_eq]
  decide +kernel
set_option maxHeartbeats 8000000 in
set_option maxRecDepth 100000 in
theorem xawake_any (w : World) (hT : Tab w) : Calls Tryz.prog 10 #[] w fun e w' => e = .returned (.bool true) ∧ Below w.heap.size w w' := by
  have LA : ∀ W, Below ((((w.alloc (.cells #[.int .i64 9, .int .i64 17] 3)).alloc (.cells #[.int .i64 0, .int .i64 0, .int .i64 0, .int .i64 1, .int .i64 0, .int .i64 2, .int .i64 0, .int .i64 3, .int .i64 0, .int .i64 4] 77)).alloc (.cells #[.int .i64 (-1), .int .i64 2] 3)).alloc (.cells #[.int .u8 5, .int .i64 1, .int .i64 0, .int .u8 0, .int .i64 0, .slice none 0 0, .slice none 0 0, .slice (some ⟨w.heap.size, 0, none⟩) 2 2, .slice (some ⟨w.heap.size + 1, 0, none⟩) 5 5, .slice none 0 0, .slice none 0 0, .slice none 0 0, .slice none 0 0, .slice (some ⟨w.heap.size + 1 + 1, 0, none⟩) 2 2, .int .i64 0] 33)).heap.size ((((w.alloc (.cells #[.int .i64 9, .int .i64 17] 3)).alloc (.cells #[.int .i64 0, .int .i64 0, .int .i64 0, .int .i64 1, .int .i64 0, .int .i64 2, .int .i64 0, .int .i64 3, .int .i64 0, .int .i64 4] 77)).alloc (.cells #[.int .i64 (-1), .int .i64 2] 3)).alloc (.cells #[.int .u8 5, .int .i64 1, .int .i64 0, .int .u8 0, .int .i64 0, .slice none 0 0, .slice none 0 0, .slice (some ⟨w.heap.size, 0, none⟩) 2 2, .slice (some ⟨w.heap.size + 1, 0, none⟩) 5 5, .slice none 0 0, .slice none 0 0, .slice none 0 0, .slice none 0 0, .slice (some ⟨w.heap.size + 1 + 1, 0, none⟩) 2 2, .int .i64 0] 33)) W → Lists W rA (svA w.heap.size) := fun W hB => by
    have hb := hB.size
    simp only [World.size_alloc] at hb
    have k : ∀ b i v, b < w.heap.size + 1 + 1 + 1 → ((((w.alloc (.cells #[.int .i64 9, .int .i64 17] 3)).alloc (.cells #[.int .i64 0, .int .i64 0, .int .i64 0, .int .i64 1, .int .i64 0, .int .i64 2, .int .i64 0, .int .i64 3, .int .i64 0, .int .i64 4] 77)).alloc (.cells #[.int .i64 (-1), .int .i64 2] 3)).alloc (.cells #[.int .u8 5, .int .i64 1, .int .i64 0, .int .u8 0, .int .i64 0, .slice none 0 0, .slice none 0 0, .slice (some ⟨w.heap.size, 0, none⟩) 2 2, .slice (some ⟨w.heap.size + 1, 0, none⟩) 5 5, .slice none 0 0, .slice none 0 0, .slice none 0 0, .slice none 0 0, .slice (some ⟨w.heap.size + 1 + 1, 0, none⟩) 2 2, .int .i64 0] 33)).cell? ⟨b, i, none⟩ = some v → W.cell? ⟨b, i, none⟩ = some v := fun b i v hb h => (hB.cell (p := ⟨b, i, none⟩) (by simp; omega)).trans h
    have a1 : ∀ i v, (#[.int .i64 9, .int .i64 17] : Array Value)[i]? = some v → ((((w.alloc (.cells #[.int .i64 9, .int .i64 17] 3)).alloc (.cells #[.int .i64 0, .int .i64 0, .int .i64 0, .int .i64 1, .int .i64 0, .int .i64 2, .int .i64 0, .int .i64 3, .int .i64 0, .int .i64 4] 77)).alloc (.cells #[.int .i64 (-1), .int .i64 2] 3)).alloc (.cells #[.int .u8 5, .int .i64 1, .int .i64 0, .int .u8 0, .int .i64 0, .slice none 0 0, .slice none 0 0, .slice (some ⟨w.heap.size, 0, none⟩) 2 2, .slice (some ⟨w.heap.size + 1, 0, none⟩) 5 5, .slice none 0 0, .slice none 0 0, .slice none 0 0, .slice none 0 0, .slice (some ⟨w.heap.size + 1 + 1, 0, none⟩) 2 2, .int .i64 0] 33)).cell? ⟨w.heap.size, i, none⟩ = some v := fun i v h => by
      rw [World.cell?_alloc_past _ _ _ (by simp <;> omega), World.cell?_alloc_past _ _ _ (by simp <;> omega), World.cell?_alloc_past _ _ _ (by simp)]
      exact (World.cell?_alloc_new w _ _ i).trans h
    have a2 : ∀ i v, (#[.int .i64 0, .int .i64 0, .int .i64 0, .int .i64 1, .int .i64 0, .int .i64 2, .int .i64 0, .int .i64 3, .int .i64 0, .int .i64 4] : Array Value)[i]? = some v → ((((w.alloc (.cells #[.int .i64 9, .int .i64 17] 3)).alloc (.cells #[.int .i64 0, .int .i64 0, .int .i64 0, .int .i64 1, .int .i64 0, .int .i64 2, .int .i64 0, .int .i64 3, .int .i64 0, .int .i64 4] 77)).alloc (.cells #[.int .i64 (-1), .int .i64 2] 3)).alloc (.cells #[.int .u8 5, .int .i64 1, .int .i64 0, .int .u8 0, .int .i64 0, .slice none 0 0, .slice none 0 0, .slice (some ⟨w.heap.size, 0, none⟩) 2 2, .slice (some ⟨w.heap.size + 1, 0, none⟩) 5 5, .slice none 0 0, .slice none 0 0, .slice none 0 0, .slice none 0 0, .slice (some ⟨w.heap.size + 1 + 1, 0, none⟩) 2 2, .int .i64 0] 33)).cell? ⟨w.heap.size + 1, i, none⟩ = some v := fun i v h => by
      rw [World.cell?_alloc_past _ _ _ (by simp <;> omega), World.cell?_alloc_past _ _ _ (by simp), World.cell?_alloc_at _ _ _ _ (by simp)]
      exact h
    have a3 : ∀ i v, (#[.int .i64 (-1), .int .i64 2] : Array Value)[i]? = some v → ((((w.alloc (.cells #[.int .i64 9, .int .i64 17] 3)).alloc (.cells #[.int .i64 0, .int .i64 0, .int .i64 0, .int .i64 1, .int .i64 0, .int .i64 2, .int .i64 0, .int .i64 3, .int .i64 0, .int .i64 4] 77)).alloc (.cells #[.int .i64 (-1), .int .i64 2] 3)).alloc (.cells #[.int .u8 5, .int .i64 1, .int .i64 0, .int .u8 0, .int .i64 0, .slice none 0 0, .slice none 0 0, .slice (some ⟨w.heap.size, 0, none⟩) 2 2, .slice (some ⟨w.heap.size + 1, 0, none⟩) 5 5, .slice none 0 0, .slice none 0 0, .slice none 0 0, .slice none 0 0, .slice (some ⟨w.heap.size + 1 + 1, 0, none⟩) 2 2, .int .i64 0] 33)).cell? ⟨w.heap.size + 1 + 1, i, none⟩ = some v := fun i v h => by
      rw [World.cell?_alloc_past _ _ _ (by simp), World.cell?_alloc_at _ _ _ _ (by simp)]
      exact h
    exact listsA (by omega) (k _ _ _ (by omega) (a1 0 _ rfl)) (k _ _ _ (by omega) (a1 1 _ rfl)) (fun i v h => k _ _ _ (by omega) (a2 i v h)) (k _ _ _ (by omega) (a3 0 _ rfl)) (k _ _ _ (by omega) (a3 1 _ rfl))
  have B4 : Below w.heap.size w ((((w.alloc (.cells #[.int .i64 9, .int .i64 17] 3)).alloc (.cells #[.int .i64 0, .int .i64 0, .int .i64 0, .int .i64 1, .int .i64 0, .int .i64 2, .int .i64 0, .int .i64 3, .int .i64 0, .int .i64 4] 77)).alloc (.cells #[.int .i64 (-1), .int .i64 2] 3)).alloc (.cells #[.int .u8 5, .int .i64 1, .int .i64 0, .int .u8 0, .int .i64 0, .slice none 0 0, .slice none 0 0, .slice (some ⟨w.heap.size, 0, none⟩) 2 2, .slice (some ⟨w.heap.size + 1, 0, none⟩) 5 5, .slice none 0 0, .slice none 0 0, .slice none 0 0, .slice none 0 0, .slice (some ⟨w.heap.size + 1 + 1, 0, none⟩) 2 2, .int .i64 0] 33)) := Below.next_alloc (Below.next_alloc (Below.next_alloc (Below.next_alloc (Below.refl _ w) _) _) _) _
  have HT : ∀ W, Below ((((w.alloc (.cells #[.int .i64 9, .int .i64 17] 3)).alloc (.cells #[.int .i64 0, .int .i64 0, .int .i64 0, .int .i64 1, .int .i64 0, .int .i64 2, .int .i64 0, .int .i64 3, .int .i64 0, .int .i64 4] 77)).alloc (.cells #[.int .i64 (-1), .int .i64 2] 3)).alloc (.cells #[.int .u8 5, .int .i64 1, .int .i64 0, .int .u8 0, .int .i64 0, .slice none 0 0, .slice none 0 0, .slice (some ⟨w.heap.size, 0, none⟩) 2 2, .slice (some ⟨w.heap.size + 1, 0, none⟩) 5 5, .slice none 0 0, .slice none 0 0, .slice none 0 0, .slice none 0 0, .slice (some ⟨w.heap.size + 1 + 1, 0, none⟩) 2 2, .int .i64 0] 33)).heap.size ((((w.alloc (.cells #[.int .i64 9, .int .i64 17] 3)).alloc (.cells #[.int .i64 0, .int .i64 0, .int .i64 0, .int .i64 1, .int .i64 0, .int .i64 2, .int .i64 0, .int .i64 3, .int .i64 0, .int .i64 4] 77)).alloc (.cells #[.int .i64 (-1), .int .i64 2] 3)).alloc (.cells #[.int .u8 5, .int .i64 1, .int .i64 0, .int .u8 0, .int .i64 0, .slice none 0 0, .slice none 0 0, .slice (some ⟨w.heap.size, 0, none⟩) 2 2, .slice (some ⟨w.heap.size + 1, 0, none⟩) 5 5, .slice none 0 0, .slice none 0 0, .slice none 0 0, .slice none 0 0, .slice (some ⟨w.heap.size + 1 + 1, 0, none⟩) 2 2, .int .i64 0] 33)) W → Tab W := fun W hB => hT.later (Below.next B4 hB)
  have A1 : ∀ W, Below ((((w.alloc (.cells #[.int .i64 9, .int .i64 17] 3)).alloc (.cells #[.int .i64 0, .int .i64 0, .int .i64 0, .int .i64 1, .int .i64 0, .int .i64 2, .int .i64 0, .int .i64 3, .int .i64 0, .int .i64 4] 77)).alloc (.cells #[.int .i64 (-1), .int .i64 2] 3)).alloc (.cells #[.int .u8 5, .int .i64 1, .int .i64 0, .int .u8 0, .int .i64 0, .slice none 0 0, .slice none 0 0, .slice (some ⟨w.heap.size, 0, none⟩) 2 2, .slice (some ⟨w.heap.size + 1, 0, none⟩) 5 5, .slice none 0 0, .slice none 0 0, .slice none 0 0, .slice none 0 0, .slice (some ⟨w.heap.size + 1 + 1, 0, none⟩) 2 2, .int .i64 0] 33)).heap.size ((((w.alloc (.cells #[.int .i64 9, .int .i64 17] 3)).alloc (.cells #[.int .i64 0, .int .i64 0, .int .i64 0, .int .i64 1, .int .i64 0, .int .i64 2, .int .i64 0, .int .i64 3, .int .i64 0, .int .i64 4] 77)).alloc (.cells #[.int .i64 (-1), .int .i64 2] 3)).alloc (.cells #[.int .u8 5, .int .i64 1, .int .i64 0, .int .u8 0, .int .i64 0, .slice none 0 0, .slice none 0 0, .slice (some ⟨w.heap.size, 0, none⟩) 2 2, .slice (some ⟨w.heap.size + 1, 0, none⟩) 5 5, .slice none 0 0, .slice none 0 0, .slice none 0 0, .slice none 0 0, .slice (some ⟨w.heap.size + 1 + 1, 0, none⟩) 2 2, .int .i64 0] 33)) W → Calls Tryz.prog 17 #[.agg #[.int .u8 5, .int .i64 1, .int .i64 0, .int .u8 0, .int .i64 0, .slice none 0 0, .slice none 0 0, .slice (some ⟨w.heap.size, 0, none⟩) 2 2, .slice (some ⟨w.heap.size + 1, 0, none⟩) 5 5, .slice none 0 0, .slice none 0 0, .slice none 0 0, .slice none 0 0, .slice (some ⟨w.heap.size + 1 + 1, 0, none⟩) 2 2, .int .i64 0], .int .i64 0, .int .i64 24288] W (Gives W [63839725200, 63842317200]) := fun W hB => by
    have := of_any W rA (svA w.heap.size) 0 24288 (HT W hB) (LA W hB) wideA
    rw [aw3] at this
    exact this
  have A2 : ∀ W, Below ((((w.alloc (.cells #[.int .i64 9, .int .i64 17] 3)).alloc (.cells #[.int .i64 0, .int .i64 0, .int .i64 0, .int .i64 1, .int .i64 0, .int .i64 2, .int .i64 0, .int .i64 3, .int .i64 0, .int .i64 4] 77)).alloc (.cells #[.int .i64 (-1), .int .i64 2] 3)).alloc (.cells #[.int .u8 5, .int .i64 1, .int .i64 0, .int .u8 0, .int .i64 0, .slice none 0 0, .slice none 0 0, .slice (some ⟨w.heap.size, 0, none⟩) 2 2, .slice (some ⟨w.heap.size + 1, 0, none⟩) 5 5, .slice none 0 0, .slice none 0 0, .slice none 0 0, .slice none 0 0, .slice (some ⟨w.heap.size + 1 + 1, 0, none⟩) 2 2, .int .i64 0] 33)).heap.size ((((w.alloc (.cells #[.int .i64 9, .int .i64 17] 3)).alloc (.cells #[.int .i64 0, .int .i64 0, .int .i64 0, .int .i64 1, .int .i64 0, .int .i64 2, .int .i64 0, .int .i64 3, .int .i64 0, .int .i64 4] 77)).alloc (.cells #[.int .i64 (-1), .int .i64 2] 3)).alloc (.cells #[.int .u8 5, .int .i64 1, .int .i64 0, .int .u8 0, .int .i64 0, .slice none 0 0, .slice none 0 0, .slice (some ⟨w.heap.size, 0, none⟩) 2 2, .slice (some ⟨w.heap.size + 1, 0, none⟩) 5 5, .slice none 0 0, .slice none 0 0, .slice none 0 0, .slice none 0 0, .slice (some ⟨w.heap.size + 1 + 1, 0, none⟩) 2 2, .int .i64 0] 33)) W → Calls Tryz.prog 12 #[.agg #[.int .u8 5, .int .i64 1, .int .i64 0, .int .u8 0, .int .i64 0, .slice none 0 0, .slice none 0 0, .slice (some ⟨w.heap.size, 0, none⟩) 2 2, .slice (some ⟨w.heap.size + 1, 0, none⟩) 5 5, .slice none 0 0, .slice none 0 0, .slice none 0 0, .slice none 0 0, .slice (some ⟨w.heap.size + 1 + 1, 0, none⟩) 2 2, .int .i64 0], .int .i64 0, .int .i64 24288] W fun e w' => e = .returned (.int .i64 47) ∧ Below W.heap.size W w' := fun W hB => by
    have := cost_any W rA (svA w.heap.size) 0 24288 (HT W hB) (LA W hB) wideA
    rw [aw1] at this
    exact this
  have A3 : ∀ W, Below ((((w.alloc (.cells #[.int .i64 9, .int .i64 17] 3)).alloc (.cells #[.int .i64 0, .int .i64 0, .int .i64 0, .int .i64 1, .int .i64 0, .int .i64 2, .int .i64 0, .int .i64 3, .int .i64 0, .int .i64 4] 77)).alloc (.cells #[.int .i64 (-1), .int .i64 2] 3)).alloc (.cells #[.int .u8 5, .int .i64 1, .int .i64 0, .int .u8 0, .int .i64 0, .slice none 0 0, .slice none 0 0, .slice (some ⟨w.heap.size, 0, none⟩) 2 2, .slice (some ⟨w.heap.size + 1, 0, none⟩) 5 5, .slice none 0 0, .slice none 0 0, .slice none 0 0, .slice none 0 0, .slice (some ⟨w.heap.size + 1 + 1, 0, none⟩) 2 2, .int .i64 0] 33)).heap.size ((((w.alloc (.cells #[.int .i64 9, .int .i64 17] 3)).alloc (.cells #[.int .i64 0, .int .i64 0, .int .i64 0, .int .i64 1, .int .i64 0, .int .i64 2, .int .i64 0, .int .i64 3, .int .i64 0, .int .i64 4] 77)).alloc (.cells #[.int .i64 (-1), .int .i64 2] 3)).alloc (.cells #[.int .u8 5, .int .i64 1, .int .i64 0, .int .u8 0, .int .i64 0, .slice none 0 0, .slice none 0 0, .slice (some ⟨w.heap.size, 0, none⟩) 2 2, .slice (some ⟨w.heap.size + 1, 0, none⟩) 5 5, .slice none 0 0, .slice none 0 0, .slice none 0 0, .slice none 0 0, .slice (some ⟨w.heap.size + 1 + 1, 0, none⟩) 2 2, .int .i64 0] 33)) W → Calls Tryz.prog 15 #[.agg #[.int .u8 5, .int .i64 1, .int .i64 0, .int .u8 0, .int .i64 0, .slice none 0 0, .slice none 0 0, .slice (some ⟨w.heap.size, 0, none⟩) 2 2, .slice (some ⟨w.heap.size + 1, 0, none⟩) 5 5, .slice none 0 0, .slice none 0 0, .slice none 0 0, .slice none 0 0, .slice (some ⟨w.heap.size + 1 + 1, 0, none⟩) 2 2, .int .i64 0], .int .i64 0, .int .i64 24288] W fun e w' => (∃ a c, e = .returned (.slice a 46 c)) ∧ Below W.heap.size W w' := fun W hB => by
    have := all_any W rA (svA w.heap.size) 0 24288 (HT W hB) (LA W hB) wideA
    refine this.mono fun e w' h => ?_
    obtain ⟨v, rfl, hO, hB⟩ := h
    obtain ⟨a, c, rfl⟩ := hO.slice
    exact ⟨⟨a, c, by rw [aw2]⟩, hB⟩
  have A4 : ∀ W, Below w.heap.size w W → Calls Tryz.prog 12 #[.agg #[.int .u8 0, .int .i64 0, .int .i64 0, .int .u8 0, .int .i64 0, .slice none 0 0, .slice none 0 0, .slice none 0 0, .slice none 0 0, .slice none 0 0, .slice none 0 0, .slice none 0 0, .slice none 0 0, .slice none 0 0, .int .i64 0], .int .i64 0, .int .i64 0] W fun e w' => e = .returned (.int .i64 0) ∧ Below W.heap.size W w' := fun W hB => by
    have := cost_any W rZ Da.svN 0 0 (hT.later hB) (listsZ W) wideZ
    rw [aw4] at this
    exact this
  have BX : ∀ W, Below ((((w.alloc (.cells #[.int .i64 9, .int .i64 17] 3)).alloc (.cells #[.int .i64 0, .int .i64 0, .int .i64 0, .int .i64 1, .int .i64 0, .int .i64 2, .int .i64 0, .int .i64 3, .int .i64 0, .int .i64 4] 77)).alloc (.cells #[.int .i64 (-1), .int .i64 2] 3)).alloc (.cells #[.int .u8 5, .int .i64 1, .int .i64 0, .int .u8 0, .int .i64 0, .slice none 0 0, .slice none 0 0, .slice (some ⟨w.heap.size, 0, none⟩) 2 2, .slice (some ⟨w.heap.size + 1, 0, none⟩) 5 5, .slice none 0 0, .slice none 0 0, .slice none 0 0, .slice none 0 0, .slice (some ⟨w.heap.size + 1 + 1, 0, none⟩) 2 2, .int .i64 0] 33)).heap.size ((((w.alloc (.cells #[.int .i64 9, .int .i64 17] 3)).alloc (.cells #[.int .i64 0, .int .i64 0, .int .i64 0, .int .i64 1, .int .i64 0, .int .i64 2, .int .i64 0, .int .i64 3, .int .i64 0, .int .i64 4] 77)).alloc (.cells #[.int .i64 (-1), .int .i64 2] 3)).alloc (.cells #[.int .u8 5, .int .i64 1, .int .i64 0, .int .u8 0, .int .i64 0, .slice none 0 0, .slice none 0 0, .slice (some ⟨w.heap.size, 0, none⟩) 2 2, .slice (some ⟨w.heap.size + 1, 0, none⟩) 5 5, .slice none 0 0, .slice none 0 0, .slice none 0 0, .slice none 0 0, .slice (some ⟨w.heap.size + 1 + 1, 0, none⟩) 2 2, .int .i64 0] 33)) W → w.heap.size + 1 + 1 + 1 < W.heap.size ∧ W.cell? ⟨w.heap.size + 1 + 1 + 1, 0, none⟩ = some (.int .u8 5) ∧ W.cell? ⟨w.heap.size + 1 + 1 + 1, 1, none⟩ = some (.int .i64 1) ∧ W.cell? ⟨w.heap.size + 1 + 1 + 1, 2, none⟩ = some (.int .i64 0) ∧ W.cell? ⟨w.heap.size + 1 + 1 + 1, 3, none⟩ = some (.int .u8 0) ∧ W.cell? ⟨w.heap.size + 1 + 1 + 1, 4, none⟩ = some (.int .i64 0) ∧ W.cell? ⟨w.heap.size + 1 + 1 + 1, 5, none⟩ = some (.slice none 0 0) ∧ W.cell? ⟨w.heap.size + 1 + 1 + 1, 6, none⟩ = some (.slice none 0 0) ∧ W.cell? ⟨w.heap.size + 1 + 1 + 1, 7, none⟩ = some (.slice (some ⟨w.heap.size, 0, none⟩) 2 2) ∧ W.cell? ⟨w.heap.size + 1 + 1 + 1, 8, none⟩ = some (.slice (some ⟨w.heap.size + 1, 0, none⟩) 5 5) ∧ W.cell? ⟨w.heap.size + 1 + 1 + 1, 9, none⟩ = some (.slice none 0 0) ∧ W.cell? ⟨w.heap.size + 1 + 1 + 1, 10, none⟩ = some (.slice none 0 0) ∧ W.cell? ⟨w.heap.size + 1 + 1 + 1, 11, none⟩ = some (.slice none 0 0) ∧ W.cell? ⟨w.heap.size + 1 + 1 + 1, 12, none⟩ = some (.slice none 0 0) ∧ W.cell? ⟨w.heap.size + 1 + 1 + 1, 13, none⟩ = some (.slice (some ⟨w.heap.size + 1 + 1, 0, none⟩) 2 2) ∧ W.cell? ⟨w.heap.size + 1 + 1 + 1, 14, none⟩ = some (.int .i64 0) := fun W hB => by
    have hb := hB.size
    simp only [World.size_alloc] at hb
    have k : ∀ i v, (#[.int .u8 5, .int .i64 1, .int .i64 0, .int .u8 0, .int .i64 0, .slice none 0 0, .slice none 0 0, .slice (some ⟨w.heap.size, 0, none⟩) 2 2, .slice (some ⟨w.heap.size + 1, 0, none⟩) 5 5, .slice none 0 0, .slice none 0 0, .slice none 0 0, .slice none 0 0, .slice (some ⟨w.heap.size + 1 + 1, 0, none⟩) 2 2, .int .i64 0] : Array Value)[i]? = some v → W.cell? ⟨w.heap.size + 1 + 1 + 1, i, none⟩ = some v := fun i v h => (hB.cell (p := ⟨w.heap.size + 1 + 1 + 1, i, none⟩) (by simp)).trans ((World.cell?_alloc_at _ _ _ _ (by simp)).trans h)
    exact ⟨by omega, k 0 _ rfl, k 1 _ rfl, k 2 _ rfl, k 3 _ rfl, k 4 _ rfl, k 5 _ rfl, k 6 _ rfl, k 7 _ rfl, k 8 _ rfl, k 9 _ rfl, k 10 _ rfl, k 11 _ rfl, k 12 _ rfl, k 13 _ rfl, k 14 _ rfl⟩
  replace B4 := Lib.hid B4
  replace A1 := Lib.hid A1
  replace A2 := Lib.hid A2
  replace A3 := Lib.hid A3
  replace A4 := Lib.hid A4
  replace BX := Lib.hid BX
  clear LA HT hT
  go_enter Tryz.func10, Tryz.ntmps10
  go_wp2_with (first
    | (go_at_call 17; (with_reducible refine (A1.out _ (Below.refl _ _)).mono ?_); rintro e w1 ⟨v1, rfl, hO1, hB1⟩; obtain ⟨g1, p1, rfl, hg1, hc1⟩ := Da.OwnI.pos hO1 (by decide); have q1 := hc1 0 63839725200 rfl; have q2 := hc1 1 63842317200 rfl; clear hc1 hO1 A1; obtain ⟨y0, x0, x1, x2, x3, x4, x5, x6, x7, x8, x9, x10, x11, x12, x13, x14⟩ := BX.out w1 hB1; replace hB1 := Lib.hid hB1)
    | (go_at_call 12; (with_reducible refine (A2.out _ hB1.out).mono ?_); rintro e w2 ⟨rfl, hB2⟩; have s1 := (hB2.cell (p := ⟨g1, 0, none⟩) hg1).trans q1; have s2 := (hB2.cell (p := ⟨g1, 1, none⟩) hg1).trans q2; have hg2 := Nat.lt_of_lt_of_le hg1 hB2.size; replace hB2 := Lib.hid (Below.next hB1.out hB2); clear y0 x0 x1 x2 x3 x4 x5 x6 x7 x8 x9 x10 x11 x12 x13 x14; obtain ⟨y0, x0, x1, x2, x3, x4, x5, x6, x7, x8, x9, x10, x11, x12, x13, x14⟩ := BX.out w2 hB2.out; clear A2)
    | (go_at_call 15; (with_reducible refine (A3.out _ hB2.out).mono ?_); rintro e w3 ⟨⟨a3, c3, rfl⟩, hB3⟩; have r1 := (hB3.cell (p := ⟨g1, 0, none⟩) hg2).trans s1; have r2 := (hB3.cell (p := ⟨g1, 1, none⟩) hg2).trans s2; replace hB3 := Lib.hid (Below.next hB2.out hB3); clear y0 x0 x1 x2 x3 x4 x5 x6 x7 x8 x9 x10 x11 x12 x13 x14; obtain ⟨y0, x0, x1, x2, x3, x4, x5, x6, x7, x8, x9, x10, x11, x12, x13, x14⟩ := BX.out w3 hB3.out; clear A3)
    | (go_at_call 12; (with_reducible refine (A4.out _ (Below.next B4.out hB3.out)).mono ?_); rintro e w4 ⟨rfl, hB4⟩; replace hB4 := Lib.hid (Below.next (Below.next B4.out hB3.out) hB4); clear A4))
  go_ret
  exact ⟨rfl, hB4.out⟩
end Go.Proofs.YtkbohijlhhpfbaaGreatDoor.Xp

/- Helpers for the laws of chapter 25 (printed by gen_laws.py). -/
namespace Go.Proofs.YtkbohijlhhpfbaaGreatDoor.Xp
open Go.RowKit Ru Ut Cw Ra
/-- how long a list is, by its number -/
def ln (r : R) (q : Nat) : Nat := if q = 7 then r.day.length else (lst r q).length
def svQ (r : R) (a : Nat → Option Addr) (c : Nat → Nat) (q : Nat) : Value := .slice (a q) (ln r q) (c q)
/-- Own's rule, by value, its lists as slices -/
def GivesQ (w : World) (r : R) (e : Ending) (w' : World) : Prop := ∃ a c, e = .returned (.agg #[.int .u8 r.freq, .int .i64 r.interval, .int .i64 r.count, .int .u8 r.uk, .int .i64 r.us, .slice (a 4) r.sec.length (c 4), .slice (a 5) r.min.length (c 5), .slice (a 6) r.hour.length (c 6), .slice (a 7) r.day.length (c 7), .slice (a 8) r.mday.length (c 8), .slice (a 9) r.yday.length (c 9), .slice (a 10) r.weekno.length (c 10), .slice (a 11) r.month.length (c 11), .slice (a 12) r.setpos.length (c 12), .int .i64 r.wkst]) ∧ Lists w' r (svQ r a c) ∧ Below w.heap.size w w'
theorem givesQ {w : World} {r : R} {e : Ending} {w' : World} (h : GivesR w r e w') : GivesQ w r e w' := by
  obtain ⟨sv, rfl, hL, hB⟩ := h
  have hs : ∀ q, ∃ a, ∃ c, 4 ≤ q → q ≤ 12 → sv q = .slice a (ln r q) c := fun q => by
    by_cases hq : 4 ≤ q ∧ q ≤ 12
    · by_cases h7 : q = 7
      · subst h7
        rcases hL.2 with ⟨h0, a, c, e, _⟩ | ⟨_, b, o, c, e, _⟩
        · exact ⟨a, c, fun _ _ => by rw [e]; unfold ln; rw [if_pos rfl, h0]; rfl⟩
        · exact ⟨_, c, fun _ _ => by rw [e]; unfold ln; rw [if_pos rfl]⟩
      · obtain ⟨a, c, e⟩ := ints_slice (hL.1 q hq.1 hq.2 h7)
        exact ⟨a, c, fun _ _ => by rw [e]; unfold ln; rw [if_neg h7]⟩
    · exact ⟨none, 0, fun h1 h2 => absurd ⟨h1, h2⟩ hq⟩
  obtain ⟨a, ha⟩ := Classical.axiomOfChoice hs
  obtain ⟨c, hc⟩ := Classical.axiomOfChoice ha
  refine ⟨a, c, ?_, ⟨fun q h4 h12 h7 => ?_, ?_⟩, hB⟩
  · unfold ruleV ruleC
    rw [hc 4 (by decide) (by decide), hc 5 (by decide) (by decide), hc 6 (by decide) (by decide), hc 7 (by decide) (by decide), hc 8 (by decide) (by decide), hc 9 (by decide) (by decide), hc 10 (by decide) (by decide), hc 11 (by decide) (by decide), hc 12 (by decide) (by decide)]
    rfl
  · have h := hL.1 q h4 h12 h7
    rw [hc q h4 h12] at h
    exact h
  · have h := hL.2
    rw [hc 7 (by decide) (by decide)] at h
    exact h
section
variable {r : R} (hW : Wide r) {a : Nat → Option Addr} {c : Nat → Nat} {W : World} (hT : Tab W) (hL : Lists W r (svQ r a c))
include hW hT hL
theorem qAll (s i : Int) : Calls Tryz.prog 15 #[.agg #[.int .u8 r.freq, .int .i64 r.interval, .int .i64 r.count, .int .u8 r.uk, .int .i64 r.us, .slice (a 4) r.sec.length (c 4), .slice (a 5) r.min.length (c 5), .slice (a 6) r.hour.length (c 6), .slice (a 7) r.day.length (c 7), .slice (a 8) r.mday.length (c 8), .slice (a 9) r.yday.length (c 9), .slice (a 10) r.weekno.length (c 10), .slice (a 11) r.month.length (c 11), .slice (a 12) r.setpos.length (c 12), .int .i64 r.wkst], .int .i64 s, .int .i64 i] W (Gives W (allE r s i)) := all_any W r (svQ r a c) s i hT hL hW
theorem qOf (s i : Int) : Calls Tryz.prog 17 #[.agg #[.int .u8 r.freq, .int .i64 r.interval, .int .i64 r.count, .int .u8 r.uk, .int .i64 r.us, .slice (a 4) r.sec.length (c 4), .slice (a 5) r.min.length (c 5), .slice (a 6) r.hour.length (c 6), .slice (a 7) r.day.length (c 7), .slice (a 8) r.mday.length (c 8), .slice (a 9) r.yday.length (c 9), .slice (a 10) r.weekno.length (c 10), .slice (a 11) r.month.length (c 11), .slice (a 12) r.setpos.length (c 12), .int .i64 r.wkst], .int .i64 s, .int .i64 i] W (Gives W (ofE r s i)) := of_any W r (svQ r a c) s i hT hL hW
theorem qCost (s i : Int) : Calls Tryz.prog 12 #[.agg #[.int .u8 r.freq, .int .i64 r.interval, .int .i64 r.count, .int .u8 r.uk, .int .i64 r.us, .slice (a 4) r.sec.length (c 4), .slice (a 5) r.min.length (c 5), .slice (a 6) r.hour.length (c 6), .slice (a 7) r.day.length (c 7), .slice (a 8) r.mday.length (c 8), .slice (a 9) r.yday.length (c 9), .slice (a 10) r.weekno.length (c 10), .slice (a 11) r.month.length (c 11), .slice (a 12) r.setpos.length (c 12), .int .i64 r.wkst], .int .i64 s, .int .i64 i] W fun e w' => e = .returned (.int .i64 (costE r s i)) ∧ Below W.heap.size W w' := cost_any W r (svQ r a c) s i hT hL hW
end
theorem qCheck {r : R} (hW : Wide r) {a : Nat → Option Addr} {c : Nat → Nat} {W : World} (hL : Lists W r (svQ r a c)) : Calls Tryz.prog 33 #[.agg #[.int .u8 r.freq, .int .i64 r.interval, .int .i64 r.count, .int .u8 r.uk, .int .i64 r.us, .slice (a 4) r.sec.length (c 4), .slice (a 5) r.min.length (c 5), .slice (a 6) r.hour.length (c 6), .slice (a 7) r.day.length (c 7), .slice (a 8) r.mday.length (c 8), .slice (a 9) r.yday.length (c 9), .slice (a 10) r.weekno.length (c 10), .slice (a 11) r.month.length (c 11), .slice (a 12) r.setpos.length (c 12), .int .i64 r.wkst]] W fun e w' => e = .returned (.int .i64 (chkR r)) ∧ Below W.heap.size W w' := rcheck_any W r (svQ r a c) hL hW
theorem qBox (r : R) (a : Nat → Option Addr) (c : Nat → Nat) (w : World) (t : TypeId) {W : World} (hB : Below (w.alloc (.cells #[.int .u8 r.freq, .int .i64 r.interval, .int .i64 r.count, .int .u8 r.uk, .int .i64 r.us, .slice (a 4) r.sec.length (c 4), .slice (a 5) r.min.length (c 5), .slice (a 6) r.hour.length (c 6), .slice (a 7) r.day.length (c 7), .slice (a 8) r.mday.length (c 8), .slice (a 9) r.yday.length (c 9), .slice (a 10) r.weekno.length (c 10), .slice (a 11) r.month.length (c 11), .slice (a 12) r.setpos.length (c 12), .int .i64 r.wkst] t)).heap.size (w.alloc (.cells #[.int .u8 r.freq, .int .i64 r.interval, .int .i64 r.count, .int .u8 r.uk, .int .i64 r.us, .slice (a 4) r.sec.length (c 4), .slice (a 5) r.min.length (c 5), .slice (a 6) r.hour.length (c 6), .slice (a 7) r.day.length (c 7), .slice (a 8) r.mday.length (c 8), .slice (a 9) r.yday.length (c 9), .slice (a 10) r.weekno.length (c 10), .slice (a 11) r.month.length (c 11), .slice (a 12) r.setpos.length (c 12), .int .i64 r.wkst] t)) W) : w.heap.size < W.heap.size ∧ W.cell? ⟨w.heap.size, 0, none⟩ = some (.int .u8 r.freq) ∧ W.cell? ⟨w.heap.size, 1, none⟩ = some (.int .i64 r.interval) ∧ W.cell? ⟨w.heap.size, 2, none⟩ = some (.int .i64 r.count) ∧ W.cell? ⟨w.heap.size, 3, none⟩ = some (.int .u8 r.uk) ∧ W.cell? ⟨w.heap.size, 4, none⟩ = some (.int .i64 r.us) ∧ W.cell? ⟨w.heap.size, 5, none⟩ = some (.slice (a 4) r.sec.length (c 4)) ∧ W.cell? ⟨w.heap.size, 6, none⟩ = some (.slice (a 5) r.min.length (c 5)) ∧ W.cell? ⟨w.heap.size, 7, none⟩ = some (.slice (a 6) r.hour.length (c 6)) ∧ W.cell? ⟨w.heap.size, 8, none⟩ = some (.slice (a 7) r.day.length (c 7)) ∧ W.cell? ⟨w.heap.size, 9, none⟩ = some (.slice (a 8) r.mday.length (c 8)) ∧ W.cell? ⟨w.heap.size, 10, none⟩ = some (.slice (a 9) r.yday.length (c 9)) ∧ W.cell? ⟨w.heap.size, 11, none⟩ = some (.slice (a 10) r.weekno.length (c 10)) ∧ W.cell? ⟨w.heap.size, 12, none⟩ = some (.slice (a 11) r.month.length (c 11)) ∧ W.cell? ⟨w.heap.size, 13, none⟩ = some (.slice (a 12) r.setpos.length (c 12)) ∧ W.cell? ⟨w.heap.size, 14, none⟩ = some (.int .i64 r.wkst) := Tm.rboxT w r (svQ r a c) t hB
end Go.Proofs.YtkbohijlhhpfbaaGreatDoor.Xp


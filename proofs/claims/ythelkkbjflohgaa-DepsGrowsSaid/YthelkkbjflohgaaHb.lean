/- The walks through the reference's reached, Reach, Acyclic (printed by gen_reach.py). -/
import Derived.Test.YthelkkbjflohgaaHa
import Derived.Test.YthelkkbjflohgaaGg
namespace Go.Proofs.Ythelkkbjflohgaa.Ds
open Go.RowKit Ut Gr Go.Maps
theorem add_unseen' {L : List (ByteArray × ByteArray)} {a : ByteArray} {out : List ByteArray} {e : ByteArray × ByteArray} (he : e ∈ L) : (add a out e).length + unseen L (add a out e) ≤ out.length + unseen L out := by
  unfold add
  split
  · rename_i hc
    have := unseen_less (S := out) (S' := out ++ [e.2]) (l := L) (fun y hy => List.mem_append_left _ hy) hc.2 (by simp) ⟨e.1, he⟩
    rw [List.length_append]; simp only [List.length_cons, List.length_nil]; omega
  · exact Nat.le_refl _
theorem pass_unseen' {L : List (ByteArray × ByteArray)} {a : ByteArray} : ∀ {l : List (ByteArray × ByteArray)} {out : List ByteArray}, (∀ e ∈ l, e ∈ L) → (pass a out l).length + unseen L (pass a out l) ≤ out.length + unseen L out
  | [], _, _ => Nat.le_refl _
  | e :: l, _, hl => Nat.le_trans (pass_unseen' (l := l) (fun e he => hl e (List.mem_cons_of_mem _ he))) (add_unseen' (hl e (List.mem_cons_self ..)))
theorem add_yes {a : ByteArray} {out : List ByteArray} {e : ByteArray × ByteArray} (h1 : e.1 = a ∨ e.1 ∈ out) (h2 : e.2 ∉ out) : add a out e = out ++ [e.2] := by unfold add; rw [if_pos ⟨h1, h2⟩]
theorem add_no1 {a : ByteArray} {out : List ByteArray} {e : ByteArray × ByteArray} (h1 : ¬ (e.1 = a ∨ e.1 ∈ out)) : add a out e = out := by unfold add; rw [if_neg (fun h => h1 h.1)]
theorem add_no2 {a : ByteArray} {out : List ByteArray} {e : ByteArray × ByteArray} (h2 : e.2 ∈ out) : add a out e = out := by unfold add; rw [if_neg (fun h => h.2 h2)]
/-- what reached gives: the names to which there is a way -/
def GivesW (w : World) (l : List (ByteArray × ByteArray)) (s : ByteArray) (e : Ending) (w' : World) : Prop :=
  ∃ (out : List ByteArray) (v : Value), e = .returned v ∧ OwnS w' w.heap.size v out ∧ (∀ x, x ∈ out ↔ Leads l s x) ∧ out.length ≤ l.length ∧ Below w.heap.size w w'
/-- how the outer loop stands -/
def RchS (w wr : World) (l : List (ByteArray × ByteArray)) (s : ByteArray) (gk : Nat) (v : Value) (b : Bool) : Prop :=
  ∃ out : List ByteArray, OwnS wr w.heap.size v out ∧ (∀ x ∈ out, Leads l s x) ∧ out.length + unseen l out ≤ l.length ∧ (b = false → (pass s out l).length = out.length) ∧ 2 * unseen l out + (if b = true then 1 else 0) ≤ gk ∧ Below w.heap.size w wr
theorem rch_next {w wk : World} {l : List (ByteArray × ByteArray)} {s : ByteArray} {out : List ByteArray} {v : Value} {c : Bool} (hw : ∀ x ∈ out, Leads l s x) (hu : out.length + unseen l out ≤ l.length) (h2 : OwnS wk w.heap.size v (pass s out (l.take l.length))) (hp : c = true ↔ (pass s out (l.take l.length)).length ≠ out.length) (hB : Below w.heap.size w wk) : RchS w wk l s (2 * unseen l out) v c := by
  rw [List.take_length] at hp h2
  have hun := pass_unseen' (L := l) (a := s) (l := l) (out := out) (fun e he => he)
  have hle := pass_le (a := s) (l := l) (out := out)
  refine ⟨pass s out l, h2, pass_way (fun e he => he) hw, by omega, fun hcf => ?_, ?_, hB⟩
  · have he : (pass s out l).length = out.length := Decidable.byContradiction fun h => by rw [hp.2 h] at hcf; cases hcf
    rw [(pass_same he).1]
    exact he
  · cases c
    · have he : (pass s out l).length = out.length := Decidable.byContradiction fun h => by have := hp.2 h; cases this
      rw [(pass_same he).1]; simp
    · have he : (pass s out l).length ≠ out.length := hp.1 rfl
      simp only [if_true]; omega
set_option maxHeartbeats 8000000 in
set_option maxRecDepth 100000 in
theorem reached_any {w : World} {v : Value} {l : List (ByteArray × ByteArray)} (s : ByteArray) (hl : Edgs w v l) (hn : l.length ≤ 1000) : Calls Try.prog 36 #[v, .string s] w (GivesW w l s) := by
  have HL := Lib.hid hl
  obtain ⟨av, cv, rfl⟩ := hl.slice
  clear hl
  go_enter Try.func36, Try.ntmps36
  go_wp2
  have S0 := Lib.hid (show RchS w w l s (2 * l.length + 1) (.slice none 0 0) true from ⟨[], OwnS.nil _ _, by simp, by have := unseen_le l ([] : List ByteArray); simpa using this, (fun h => by cases h), by have := unseen_le l ([] : List ByteArray); simp only [if_true]; omega, Below.refl _ _⟩)
  go_loopg [5, 6] (2 * l.length + 1) (fun gk v m wr => ∃ b : Bool, m = .bool b ∧ Hid (RchS w wr l s gk v b))
  case atStart => exact ⟨true, rfl, S0⟩
  case round =>
    obtain ⟨b, rfl, hS⟩ := hrel
    obtain ⟨out, ho, hw, hu, hb, hm, hB⟩ := hS.out
    cases b
    · have hend := Lib.hid (pass_end (L := l) hw (hb rfl))
      have ho := Lib.hid ho
      have hlen : out.length ≤ l.length := by omega
      clear hS hw hu hb hm
      go_wp2
      go_ret
      exact ⟨out, _, rfl, ho.out, hend.out, hlen, hB⟩
    · have hu := Lib.hid hu
      have hw := Lib.hid hw
      have hm := Lib.hid hm
      have ho := Lib.hid ho
      have hB0 := Lib.hid hB
      have hol : out.length ≤ 1000 := by have := hu.out; omega
      clear hS hb hB
      go_wp2
      go_loopw [5, 6, 7] (fun v m i wk => ∃ (k : Nat) (c : Bool), k ≤ l.length ∧ i = .int .i64 k ∧ m = .bool c ∧ Hid (OwnS wk w.heap.size v (pass s out (l.take k))) ∧ Hid (c = true ↔ (pass s out (l.take k)).length ≠ out.length) ∧ Hid (Below w.heap.size w wk)) (fun _ _ i _ => l.length - (intOf i).toNat)
      case atStart => exact ⟨0, false, by omega, rfl, rfl, Lib.hid (by rw [List.take_zero]; exact ho.out), Lib.hid (by simp [pass]), hB0⟩
      case round =>
        obtain ⟨k, c, hk, rfl, rfl, ho2, hc, hB⟩ := hrel
        by_cases hkl : k < l.length
        · have h3 := HL.out.below hB.out
          rcases h3 with ⟨rfl, -⟩ | ⟨-, b, o, cap, hv, hlt, -, hcell⟩
          · simp at hkl
          obtain ⟨rfl, -, rfl⟩ := Value.slice.inj hv
          obtain ⟨c0, c1⟩ := hcell k hkl
          have i2 : (k : Int) < (l.length : Int) := by omega
          have i3 : (0 : Int) ≤ (k : Int) := by omega
          have hps := Lib.hid (show pass s out (l.take (k + 1)) = add s (pass s out (l.take k)) l[k] by rw [List.take_succ_eq_append_getElem hkl, pass_snoc])
          have hpl : (pass s out (l.take k)).length ≤ 1000 := by
            have := pass_unseen' (L := l) (a := s) (l := l.take k) (out := out) (fun e he => List.mem_of_mem_take he)
            have := hu.out
            omega
          have hge := pass_le (a := s) (l := l.take k) (out := out)
          have FH := fun t => rHas_any t ho2.out.strs (by omega)
          have hv0 := Lib.hid hv
          clear hv hcell
          generalize pass s out (l.take k) = cur at *
          generalize l[k] = e at *
          obtain ⟨p, q⟩ := e
          simp only at c0 c1
          replace FH := Lib.hid FH
          have hge := Lib.hid hge
          by_cases he : p = s
          · by_cases hq : q ∈ cur
            · have hadd := Lib.hid (add_no2 (a := s) (out := cur) (e := (p, q)) hq)
              have hin := isIn_yes hq
              rw [he] at c0
              clear he hq
              go_wp2_with (first
                | (go_at_call 35; (with_reducible refine (FH.out _).mono ?_); rintro e w' ⟨rfl, rfl⟩))
              go_roundw
              case rel => exact ⟨k + 1, c, by omega, by go_num, rfl, Lib.hid (by rw [hps.out, hadd.out]; exact ho2.out), Lib.hid (by rw [hps.out, hadd.out]; exact hc.out), hB⟩
              case measure => simp [intOf]; omega
            · have hadd := Lib.hid (add_yes (a := s) (out := cur) (e := (p, q)) (.inl he) hq)
              have hin := isIn_no hq
              rw [he] at c0
              clear he hq
              go_wp2_with (first
                | (go_at_call 35; (with_reducible refine (FH.out _).mono ?_); rintro e w' ⟨rfl, rfl⟩)
                | (at_builtin; refine push_str rfl _ _ rfl w.heap.size _ cur rfl ho2.out rfl (by omega) hB.out.size ?_; intro v5 w5 hown5 hB5))
              go_roundw
              case rel => exact ⟨k + 1, true, by omega, by go_num, rfl, Lib.hid (by rw [hps.out, hadd.out]; exact hown5), Lib.hid (by rw [hps.out, hadd.out, List.length_append]; have := hge.out; simp; omega), Lib.hid (hB.out.trans hB5)⟩
              case measure => simp [intOf]; omega
          · have hes := eqS_no he
            by_cases hp : p ∈ cur
            · have hip := isIn_yes hp
              by_cases hq : q ∈ cur
              · have hadd := Lib.hid (add_no2 (a := s) (out := cur) (e := (p, q)) hq)
                have hin := isIn_yes hq
                clear he hp hq
                go_wp2_with (first
                  | (go_at_call 35; (with_reducible refine (FH.out _).mono ?_); rintro e w' ⟨rfl, rfl⟩))
                go_roundw
                case rel => exact ⟨k + 1, c, by omega, by go_num, rfl, Lib.hid (by rw [hps.out, hadd.out]; exact ho2.out), Lib.hid (by rw [hps.out, hadd.out]; exact hc.out), hB⟩
                case measure => simp [intOf]; omega
              · have hadd := Lib.hid (add_yes (a := s) (out := cur) (e := (p, q)) (.inr hp) hq)
                have hin := isIn_no hq
                clear he hp hq
                go_wp2_with (first
                  | (go_at_call 35; (with_reducible refine (FH.out _).mono ?_); rintro e w' ⟨rfl, rfl⟩)
                  | (at_builtin; refine push_str rfl _ _ rfl w.heap.size _ cur rfl ho2.out rfl (by omega) hB.out.size ?_; intro v5 w5 hown5 hB5))
                go_roundw
                case rel => exact ⟨k + 1, true, by omega, by go_num, rfl, Lib.hid (by rw [hps.out, hadd.out]; exact hown5), Lib.hid (by rw [hps.out, hadd.out, List.length_append]; have := hge.out; simp; omega), Lib.hid (hB.out.trans hB5)⟩
                case measure => simp [intOf]; omega
            · have hip := isIn_no hp
              have hadd := Lib.hid (add_no1 (a := s) (out := cur) (e := (p, q)) (fun h => h.elim he hp))
              clear he hp
              go_wp2_with (first
                | (go_at_call 35; (with_reducible refine (FH.out _).mono ?_); rintro e w' ⟨rfl, rfl⟩))
              go_roundw
              case rel => exact ⟨k + 1, c, by omega, by go_num, rfl, Lib.hid (by rw [hps.out, hadd.out]; exact ho2.out), Lib.hid (by rw [hps.out, hadd.out]; exact hc.out), hB⟩
              case measure => simp [intOf]; omega
        · obtain rfl : k = l.length := by omega
          have hS2 := Lib.hid (rch_next hw.out hu.out ho2.out hc.out hB.out)
          go_wp2
          go_roundg (2 * unseen l out)
          case measure => have := hm.out; simp only [if_true] at this; omega
          case rel => exact ⟨c, rfl, hS2⟩
end Go.Proofs.Ythelkkbjflohgaa.Ds

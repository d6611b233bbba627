/- The walk through visit: the texts to which there is a way. -/
import Derived.Test.YthelkkbjflohgaaGd
import Derived.Laws.AppendOwnNone
namespace Go.Proofs.Ythelkkbjflohgaa.Ds
open Go.RowKit Ut Gr Go.Maps
theorem add_eq (b o j : Nat) : (⟨b, o, none⟩ : Addr).add j = ⟨b, o + j, none⟩ := by
  unfold Addr.add; split <;> simp_all
theorem app_strs {ops : Array Oper} {rest : List Oper} {o : Oper} {a : Act} {Q : Exit → Act → World → Prop} {W : World} (hgd : o.guard = none) (s x : Operand)
    (ho : o.op = .call { callee := .builtin .append, args := #[s, x], argTypes := #[23, 23] }) (B : Nat) (v : Value) (l : List ByteArray) (hs : a.eval s = v) (hown : OwnS W B v l)
    (u : Value) (m : List ByteArray) (hx : a.eval x = u) (hm : Strs W u m) (hn : l.length + m.length ≤ 10000000) (hB : B ≤ W.heap.size)
    (h : ∀ v' w', OwnS w' B v' (l ++ m) → Below B W w' → wpList Try.prog ops Q rest (a.put o.dst v') w') : wpList Try.prog ops Q (o :: rest) a W := by
  obtain ⟨i0, hi, hz0, hz1, hz2⟩ := info_parts infoStr
  rcases hm with ⟨rfl, a', cap, rfl, ha⟩ | ⟨h0, b, of, cap, rfl, hlt, hcap, hcell⟩
  · rw [List.append_nil] at h
    cases a' with
    | none =>
      obtain rfl := ha rfl
      exact wpList_append_own_none hgd s x _ ho B 9 i0 1 Try.underlying23 hi v l.length (sc l) hs hown hx (h v W hown (Below.refl _ _))
    | some ad =>
      refine wpList_append_own W hgd s x _ ho B 9 i0 _ 1 16 Try.underlying23 hi hz0 hz1 hz2 rfl (by decide) v l.length (sc l) hs hown ad 0 cap [] hx rfl (by intro j u hj; simp at hj) (by simp) (by unfold maxLen; omega) (by omega) hB fun v' w' h1 h2 _ => ?_
      rw [List.append_nil] at h1
      exact h v' w' h1 ((Below.refl B W).grown h2 hB fun k hk => (hown.lt k hk).1)
  · refine wpList_append_own W hgd s x _ ho B 9 i0 _ 1 16 Try.underlying23 hi hz0 hz1 hz2 rfl (by decide) v l.length (sc l) hs hown ⟨b, of, none⟩ m.length cap (sc m) hx (by rw [sc_length, Nat.mul_one]) ?_ ?_ (by unfold maxLen; omega) (by omega) hB fun v' w' h1 h2 _ => ?_
    · intro j u hj
      unfold sc at hj
      rw [List.getElem?_map, Option.map_eq_some_iff] at hj
      obtain ⟨z, hz, rfl⟩ := hj
      obtain ⟨hj, rfl⟩ := List.getElem?_eq_some_iff.1 hz
      rw [add_eq]
      exact hcell j hj
    · intro u hu
      unfold sc at hu
      rw [List.mem_map] at hu
      obtain ⟨z, _, rfl⟩ := hu
      simp [Value.oneCell']
    · refine h v' w' ?_ ((Below.refl B W).grown h2 hB fun k hk => (hown.lt k hk).1)
      unfold OwnS
      rw [sc_append, List.length_append]
      exact h1
/-- the last one of a row, and the row without it -/
theorem OwnS.last {w : World} {B : Nat} {v : Value} {l : List ByteArray} {x : ByteArray} (h : OwnS w B v (l ++ [x])) :
    ∃ g cap, v = .slice (some ⟨g, 0, none⟩) (l.length + 1) cap ∧ l.length + 1 ≤ cap ∧ cap ≤ maxLen ∧ B ≤ g ∧ w.cell? ⟨g, l.length, none⟩ = some (.string x) ∧ OwnS w B (.slice (some ⟨g, 0, none⟩) l.length cap) l := by
  obtain ⟨g0, cap0, hv0, hB0, _, hc0, hcell⟩ := h.pos (by simp)
  rcases h with ⟨_, ⟨rfl, hn⟩ | ⟨g, cap, cur, rfl, hb, hg, hc, hm, hs, ht⟩⟩
  · simp at hn
  · rw [List.length_append] at *
    obtain ⟨e1, _, e2⟩ := Value.slice.inj hv0
    injection e1 with e1
    injection e1 with e1
    subst e1; subst e2
    refine ⟨g, cap, rfl, hc, hm, hb, hcell l.length x (by simp), ?_, .inr ⟨g, cap, cur, rfl, hb, hg, by simp at hc; omega, hm, hs, ?_⟩⟩
    · rw [sc_length, Nat.mul_one]
    · have h2 := congrArg (List.take l.length) ht
      rw [List.take_take, sc_append, List.take_left' (sc_length l), Nat.min_eq_left (by simp)] at h2
      rwa [Nat.mul_one]
theorem OwnS.kept {w w' : World} {B : Nat} {v : Value} {l : List ByteArray} {row : Option Nat} (h : OwnS w B v l) (hg : w.grownBy w' row) (hne : ∀ b, row = some b → b < B) : OwnS w' B v l := by
  refine ⟨h.1, h.2.imp id ?_⟩
  rintro ⟨g, cap, cur, h1, h2, h3, h4⟩
  exact ⟨g, cap, cur, h1, h2, (hg.block g (Array.getElem?_eq_some_iff.1 h3).1 (fun e => by have := hne _ e.symm; omega)).trans h3, h4⟩
theorem MapS.low {w w' : World} {b n B : Nat} {S : List ByteArray} (h : MapS w b n S) (hb : b < B) (hB : Below B w w') : MapS w' b n S := by
  obtain ⟨D, ⟨es, clock, h1, h2, h3, h4⟩, hD⟩ := h
  exact ⟨D, ⟨es, clock, (hB.block b hb).trans h1, h2, h3, h4⟩, hD⟩
def Short (l : List (ByteArray × ByteArray)) : Prop := ∀ e ∈ l, e.1.size ≤ 1000 ∧ e.2.size ≤ 1000
theorem Short.way {l : List (ByteArray × ByteArray)} {s x : ByteArray} (h : Short l) (k : Leads l s x) : x.size ≤ maxLen := by
  obtain ⟨u, hu⟩ := k.last
  have := (h _ hu).2
  unfold maxLen; simp only at this; omega
/-- what visit gives: a new map, 1 at just the texts to which there is a way -/
def GivesM (w : World) (l : List (ByteArray × ByteArray)) (s : ByteArray) (e : Ending) (w' : World) : Prop :=
  ∃ S : List ByteArray, e = .returned (.map (some w.heap.size)) ∧ MapS w' w.heap.size 1000 S ∧ (∀ x, x ∈ S ↔ Leads l s x) ∧ Below w.heap.size w w'
theorem meas_bound {l : List (ByteArray × ByteArray)} (hn : l.length ≤ 1000) (s : ByteArray) : meas l [] (ofL l s) ≤ 1002000 := by
  have h1 := meas_start l s
  have h2 := Nat.mul_le_mul hn (show l.length + 1 ≤ 1001 by omega)
  omega
theorem len_meas {l : List (ByteArray × ByteArray)} {S T : List ByteArray} : T.length ≤ meas l S T := by unfold meas; omega
set_option maxHeartbeats 4000000 in
set_option maxRecDepth 100000 in
theorem visit_any {w : World} {v : Value} {l : List (ByteArray × ByteArray)} (s : ByteArray) (hl : Edgs w v l) (hn : l.length ≤ 1000) (hz : Short l) : Calls Try.prog 37 #[v, .string s] w (GivesM w l s) := by
  have hmm := @run_makeMap Try.prog
  have FO : ∀ s W, Below w.heap.size w W → Calls Try.prog 17 #[v, .string s] W (GivesS W (ofL l s)) := fun s W hB => of_any s (hl.below hB) hn
  replace FO := Lib.hid FO
  have hz := Lib.hid hz
  go_enter Try.func37, Try.ntmps37
  go_wp2_with (first
    | (go_at_call 17; (with_reducible refine (FO.out _ _ (by (repeat' (first | assumption | exact Below.refl _ _ | apply Below.next_alloc | apply Below.drew | (apply Below.next; rotate_left; assumption))))).mono ?_); rintro e w1 ⟨v1, rfl, hO1, hB1⟩; have M1 := Lib.hid ((MapS.made w).below hB1); have b1 := Lib.hid (show Below w.heap.size w w1 from Below.next (Below.next_alloc (Below.refl _ _) _) hB1); rw [World.size_alloc] at hO1; replace hO1 := Lib.hid hO1))
  go_loopg [6] (meas l [] (ofL l s)) (fun g v wr => ∃ S T, OwnS wr (w.heap.size + 1) v T ∧ MapS wr w.heap.size S.length S ∧ Hid (Inv l s S T) ∧ Hid (meas l S T ≤ g ∧ meas l S T ≤ 1002000) ∧ Hid (S.length + unseen l S ≤ l.length) ∧ Hid (Below w.heap.size w wr))
  case atStart => exact ⟨[], _, hO1.out, M1.out, Lib.hid (inv_start l s), Lib.hid ⟨Nat.le_refl _, meas_bound hn s⟩, Lib.hid (by have := unseen_le l ([] : List ByteArray); simpa using this), b1⟩
  case round =>
    obtain ⟨S, T, hT, hM, hI, hms, hS, hB⟩ := hrel
    rcases List.eq_nil_or_concat T with rfl | ⟨T', x, rfl⟩
    · obtain ⟨a', c', rfl⟩ := hT.slice
      have hr := Lib.hid (show MapS wr w.heap.size 1000 S from hM.mono (by have := hS.out; omega))
      clear hM hT
      go_wp2
      go_ret
      exact ⟨S, rfl, hr.out, inv_end hI.out, hB.out⟩
    · rw [List.concat_eq_append] at *
      obtain ⟨g, cap, rfl, hc1, hc2, hg, hcell, hT2⟩ := hT.last
      have hTl := len_meas (l := l) (S := S) (T := T' ++ [x])
      rw [List.length_append] at hTl
      have hTl2 : T'.length + 1 ≤ 1002000 := by have := hms.out.2; simp at hTl; omega
      have hSl : S.length ≤ 1000 := by have := hS.out; omega
      have hxw : Leads l s x := hI.out.2.1 x (by simp)
      have hxs := hz.out.way hxw
      replace hxw := Lib.hid hxw
      replace hT2 := Lib.hid hT2
      replace hM := Lib.hid hM
      have b0 := Lib.hid (hms.out)
      clear hT hTl
      by_cases hx : x ∈ S
      · have hnext := Lib.hid (inv_skip hI.out hx)
        have hmz := Lib.hid (meas_skip l S T' x)
        go_wp2_with (first
          | (at_lookup; refine look_set rfl _ _ rfl w.heap.size _ S rfl hM.out x rfl hxs 1 (by rw [isIn_yes hx]; rfl) ?_))
        go_roundg (meas l S T')
        case measure => have := hmz.out; have := hms.out.1; omega
        case rel => exact ⟨S, T', hT2.out, hM.out, hnext, Lib.hid ⟨Nat.le_refl _, by have := hmz.out; have := hms.out.2; omega⟩, hS, hB⟩
      · have hnext := Lib.hid (inv_take hI.out)
        have hmz := Lib.hid (meas_take (l := l) (T := T') hx hxw.out.last)
        have hun := Lib.hid (unseen_less (S := S) (S' := x :: S) (fun y hy => List.mem_cons_of_mem _ hy) hx (List.mem_cons_self ..) hxw.out.last)
        have hol := ofL_le l x
        go_wp2_with (first
          | (at_lookup; refine look_set rfl _ _ rfl w.heap.size _ S rfl hM.out x rfl hxs 0 (by rw [isIn_no hx]; rfl) ?_)
          | (at_mapUpdate; refine put_set rfl _ _ _ rfl w.heap.size _ S rfl hM.out (by omega) x rfl rfl hxs ?_; intro w2 hM2 hg2; have b2 := Lib.hid (hB.out.grown hg2 hB.out.size (fun j hj => by cases hj; exact Nat.le_refl _)); have hT3 := Lib.hid (hT2.out.kept hg2 (fun b hb => by cases hb; exact Nat.lt_succ_self _)); replace hM2 := Lib.hid hM2)
          | (go_at_call 17; (with_reducible refine (FO.out _ _ b2.out).mono ?_); rintro e w3 ⟨v3, rfl, hO3, hB3⟩; have b3 := Lib.hid (Below.next b2.out hB3); have hM3 := Lib.hid (hM2.out.below hB3); have hT4 := Lib.hid (hT3.out.below hB3); have hO3 := Lib.hid hO3)
          | (at_builtin; refine app_strs rfl _ _ rfl (w.heap.size + 1) _ T' rfl hT4.out _ (ofL l x) rfl hO3.out.strs (by omega) (by have := b3.out.size; have := hM3.out.lt; omega) ?_; intro v4 w4 hown4 hB4))
        go_roundg (meas l (x :: S) (T' ++ ofL l x))
        case measure => have := hmz.out; have := hms.out.1; omega
        case rel => exact ⟨x :: S, _, hown4, hM3.out.low (Nat.lt_succ_self _) hB4, hnext, Lib.hid ⟨Nat.le_refl _, by have := hmz.out; have := hms.out.2; omega⟩, Lib.hid (by have := hun.out; have := hS.out; simp only [List.length_cons]; omega), Lib.hid (b3.out.trans (hB4.mono (Nat.le_succ _)))⟩
end Go.Proofs.Ythelkkbjflohgaa.Ds

/- Entries in order, kept in short lists one behind the other: plain lists, no program. -/
import Derived.Test.YtncneoggnoiknaaSp
namespace Go.Proofs.Ytncneoggnoiknaa.Du
open Sp
/-- an entry: when it is due, its name -/
abbrev E := Int × ByteArray
def less (a b : E) : Bool := if a.1 = b.1 then lt a.2 b.2 else decide (a.1 < b.1)
theorem less_irr (a : E) : less a a = false := by unfold less; rw [if_pos rfl]; exact lt_irrefl _
theorem less_tr {a b c : E} (h : less a b = true) (k : less b c = true) : less a c = true := by
  unfold less at *
  by_cases h1 : a.1 = b.1
  · rw [if_pos h1] at h
    by_cases h2 : b.1 = c.1
    · rw [if_pos h2] at k
      rw [if_pos (h1.trans h2)]; exact lt_trans h k
    · rw [if_neg h2] at k
      rw [if_neg (fun e => h2 (h1.symm.trans e)), h1]; exact k
  · rw [if_neg h1, decide_eq_true_iff] at h
    by_cases h2 : b.1 = c.1
    · rw [if_neg (fun e => h1 (e.trans h2.symm)), ← h2]; exact decide_eq_true h
    · rw [if_neg h2, decide_eq_true_iff] at k
      rw [if_neg (by omega)]; exact decide_eq_true (by omega)
theorem less_eq {a b : E} (h : less a b = false) (k : less b a = false) : a = b := by
  unfold less at *
  by_cases h1 : a.1 = b.1
  · rw [if_pos h1] at h
    rw [if_pos h1.symm] at k
    exact Prod.ext h1 (lt_tri h k)
  · rw [if_neg h1, decide_eq_false_iff_not] at h
    rw [if_neg (Ne.symm h1), decide_eq_false_iff_not] at k
    omega
theorem less_as {a b : E} (h : less a b = true) : less b a = false := by
  cases k : less b a
  · rfl
  · have := less_tr h k; rw [less_irr] at this; cases this
theorem less_ne {a b : E} (h : less a b = true) : a ≠ b := by rintro rfl; rw [less_irr] at h; cases h
/-- not behind, and not ahead of it -/
theorem less_le {a b c : E} (h : less a b = true) (k : less c b = false) : less a c = true := by
  cases q : less a c
  · cases r : less c a
    · have := less_eq q r; subst this; rw [h] at k; cases k
    · have := less_tr r h; rw [k] at this; cases this
  · rfl
/-- in order, each once -/
def Sor (m : List E) : Prop := m.Pairwise fun a b => less a b = true
/-- how many stand ahead -/
def cntE (l : List E) (e : E) : Nat := l.countP fun x => less x e
theorem cnt_take {l : List E} (h : Sor l) (e : E) : (∀ x ∈ l.take (cntE l e), less x e = true) ∧ ∀ x ∈ l.drop (cntE l e), less x e = false := by
  induction l with
  | nil => exact ⟨(fun x hx => by simp at hx), fun x hx => by simp at hx⟩
  | cons y l ih =>
    obtain ⟨h1, h2⟩ := List.pairwise_cons.1 h
    obtain ⟨i1, i2⟩ := ih h2
    cases hy : less y e
    · have h0 : cntE (y :: l) e = 0 := by
        unfold cntE
        rw [List.countP_cons_of_neg (by simp [hy]), List.countP_eq_zero]
        intro x hx hh
        have := less_tr (h1 x hx) (by simpa using hh)
        rw [hy] at this; cases this
      rw [h0]
      refine ⟨(fun x hx => by simp at hx), fun x hx => ?_⟩
      rcases List.mem_cons.1 (by simpa using hx) with rfl | hx
      · exact hy
      · cases hq : less x e
        · rfl
        · have := less_tr (h1 x hx) hq; rw [hy] at this; cases this
    · have h0 : cntE (y :: l) e = cntE l e + 1 := by
        unfold cntE
        rw [List.countP_cons_of_pos (by simp [hy])]
      rw [h0, List.take_succ_cons, List.drop_succ_cons]
      refine ⟨fun x hx => ?_, i2⟩
      rcases List.mem_cons.1 hx with rfl | hx
      · exact hy
      · exact i1 x hx
/-- the document's insertion -/
def insE (l : List E) (e : E) : List E := l.take (cntE l e) ++ e :: l.drop (cntE l e)
theorem mem_ins {l : List E} {e x : E} : x ∈ insE l e ↔ x = e ∨ x ∈ l := by
  unfold insE
  rw [List.mem_append, List.mem_cons]
  conv => rhs; rw [← List.take_append_drop (cntE l e) l, List.mem_append]
  constructor
  · rintro (h | h | h)
    · exact .inr (.inl h)
    · exact .inl h
    · exact .inr (.inr h)
  · rintro (h | h | h)
    · exact .inr (.inl h)
    · exact .inl h
    · exact .inr (.inr h)
theorem sor_ins {l : List E} (h : Sor l) {e : E} (he : e ∉ l) : Sor (insE l e) := by
  obtain ⟨h1, h2⟩ := cnt_take h e
  have hs : Sor (l.take (cntE l e) ++ l.drop (cntE l e)) := by rw [List.take_append_drop]; exact h
  obtain ⟨a1, a2, a3⟩ := List.pairwise_append.1 hs
  refine List.pairwise_append.2 ⟨a1, List.pairwise_cons.2 ⟨fun x hx => ?_, a2⟩, fun x hx y hy => ?_⟩
  · have hx2 := h2 x hx
    cases hq : less e x
    · have := less_eq hx2 hq
      subst this
      exact absurd (List.mem_of_mem_drop hx) he
    · rfl
  · rcases List.mem_cons.1 hy with rfl | hy
    · exact h1 x hx
    · exact a3 x hx y hy
/-- two lists in order that have the same entries are the same -/
theorem sor_ext : ∀ {l m : List E}, Sor l → Sor m → (∀ x, x ∈ l ↔ x ∈ m) → l = m
  | [], [], _, _, _ => rfl
  | [], y :: m, _, _, h => by have := (h y).2 List.mem_cons_self; cases this
  | x :: l, [], _, _, h => by have := (h x).1 List.mem_cons_self; cases this
  | x :: l, y :: m, hl, hm, h => by
    obtain ⟨l1, l2⟩ := List.pairwise_cons.1 hl
    obtain ⟨m1, m2⟩ := List.pairwise_cons.1 hm
    have hxy : x = y := by
      rcases List.mem_cons.1 ((h x).1 List.mem_cons_self) with h1 | h1
      · exact h1
      · rcases List.mem_cons.1 ((h y).2 List.mem_cons_self) with h2 | h2
        · exact h2.symm
        · have a := m1 x h1
          have b := l1 y h2
          have := less_as a
          rw [b] at this; cases this
    subst hxy
    congr 1
    refine sor_ext l2 m2 fun z => ⟨fun hz => ?_, fun hz => ?_⟩
    · rcases List.mem_cons.1 ((h z).1 (List.mem_cons_of_mem _ hz)) with rfl | h1
      · exact absurd rfl (less_ne (l1 z hz))
      · exact h1
    · rcases List.mem_cons.1 ((h z).2 (List.mem_cons_of_mem _ hz)) with rfl | h1
      · exact absurd rfl (less_ne (m1 z hz))
      · exact h1
/-! ## Short lists -/
/-- short lists, none empty, in order one behind the other -/
def Ok (LL : List (List E)) : Prop := Sor LL.flatten ∧ ∀ l ∈ LL, l ≠ []
def hd (l : List E) : E := l.headD (0, ByteArray.empty)
/-- the place of the list where an entry belongs, told list by list -/
def plc (e : E) : List (List E) → Nat → Nat → Nat
  | [], _, a => a
  | l :: LL, i, a => plc e LL (i + 1) (if less e (hd l) = true then a else i)
def place (LL : List (List E)) (e : E) : Nat := plc e LL 0 0
theorem plc_all {e : E} : ∀ {LL : List (List E)} (i a : Nat), (∀ l ∈ LL, less e (hd l) = true) → plc e LL i a = a
  | [], _, _, _ => rfl
  | l :: LL, i, a, h => by
    rw [plc, if_pos (h l List.mem_cons_self), plc_all (i + 1) a fun x hx => h x (List.mem_cons_of_mem _ hx)]
theorem ok_tail {l : List E} {LL : List (List E)} (h : Ok (l :: LL)) : Ok LL := by
  obtain ⟨h1, h2⟩ := h
  rw [List.flatten_cons] at h1
  exact ⟨(List.pairwise_append.1 h1).2.1, fun x hx => h2 x (List.mem_cons_of_mem _ hx)⟩
theorem hd_mem {l : List E} (h : l ≠ []) : hd l ∈ l := by
  cases l with
  | nil => exact absurd rfl h
  | cons y l => exact List.mem_cons_self
theorem ok_ahead {l m : List E} {LL : List (List E)} (h : Ok (l :: LL)) (hm : m ∈ LL) {x y : E} (hx : x ∈ l) (hy : y ∈ m) : less x y = true := by
  have h1 := h.1
  rw [List.flatten_cons] at h1
  exact (List.pairwise_append.1 h1).2.2 x hx y (List.mem_flatten.2 ⟨m, hm, hy⟩)
theorem ok_sor {l : List E} {LL : List (List E)} (h : Ok LL) (hl : l ∈ LL) : Sor l := by
  induction LL with
  | nil => cases hl
  | cons m LL ih =>
    rcases List.mem_cons.1 hl with rfl | hl
    · have h1 := h.1
      rw [List.flatten_cons] at h1
      exact (List.pairwise_append.1 h1).1
    · exact ih (ok_tail h) hl
theorem hd_le {l : List E} (h : Sor l) {x : E} (hx : x ∈ l) : less x (hd l) = false := by
  cases l with
  | nil => cases hx
  | cons y l =>
    rcases List.mem_cons.1 hx with rfl | hx
    · exact less_irr _
    · exact less_as ((List.pairwise_cons.1 h).1 x hx)
/-- where an entry belongs: what lies ahead is less, what lies behind is greater -/
theorem plc_spec (e : E) : ∀ (LL : List (List E)) (i : Nat), Ok LL → LL ≠ [] → less e (hd (LL.headD [])) = false ∨ i = 0 →
    ∃ pre L post, LL = pre ++ L :: post ∧ (∀ a, less e (hd (LL.headD [])) = false → plc e LL i a = i + pre.length) ∧ (less e (hd (LL.headD [])) = true → pre = [] ∧ plc e LL i i = i) ∧
      (∀ l ∈ pre, ∀ x ∈ l, less x e = true) ∧ ∀ l ∈ post, ∀ x ∈ l, less e x = true
  | [], _, _, h, _ => absurd rfl h
  | l :: LL, i, hO, _, _ => by
    have hT := ok_tail hO
    have hs : Sor l := ok_sor hO List.mem_cons_self
    have behind : ∀ {m : List (List E)}, Ok m → m ≠ [] → less e (hd (m.headD [])) = true → ∀ q ∈ m, ∀ x ∈ q, less e x = true := by
      intro m hm hne hlt q hq x hx
      cases m with
      | nil => cases hq
      | cons p m =>
        have hp : Sor p := ok_sor hm List.mem_cons_self
        rcases List.mem_cons.1 hq with rfl | hq
        · exact less_le hlt (hd_le hp hx)
        · exact less_tr hlt (ok_ahead hm hq (hd_mem (hm.2 p List.mem_cons_self)) hx)
    cases hl : less e (hd l)
    · by_cases hne : LL = []
      · subst hne
        refine ⟨[], l, [], rfl, fun a _ => ?_, (fun h => by rw [show (l :: []).headD [] = l from rfl, hl] at h; cases h), (fun q hq => by cases hq), fun q hq => by cases hq⟩
        rw [plc, plc, if_neg (by rw [hl]; decide)]; rfl
      · cases hn : less e (hd (LL.headD []))
        · obtain ⟨pre, L, post, h1, h2, -, h4, h5⟩ := plc_spec e LL (i + 1) hT hne (.inl hn)
          refine ⟨l :: pre, L, post, by rw [h1]; rfl, fun a _ => ?_, (fun h => by rw [show (l :: LL).headD [] = l from rfl, hl] at h; cases h), fun q hq x hx => ?_, h5⟩
          · rw [plc, if_neg (by rw [hl]; decide), h2 i hn]
            simp only [List.length_cons]; omega
          · rcases List.mem_cons.1 hq with rfl | hq
            · have hh : ∃ m, m ∈ LL ∧ m = LL.headD [] := by
                cases LL with
                | nil => exact absurd rfl hne
                | cons p LL => exact ⟨p, List.mem_cons_self, rfl⟩
              obtain ⟨m, hm, he⟩ := hh
              rw [← he] at hn
              exact less_le (ok_ahead hO hm hx (hd_mem (hT.2 m hm))) hn
            · exact h4 q hq x hx
        · refine ⟨[], l, LL, rfl, fun a _ => ?_, (fun h => by rw [show (l :: LL).headD [] = l from rfl, hl] at h; cases h), (fun q hq => by cases hq), behind hT hne hn⟩
          rw [plc, if_neg (by rw [hl]; decide), plc_all]
          · rfl
          · intro q hq
            exact behind hT hne hn q hq _ (hd_mem (hT.2 q hq))
    · have hall := behind hO (by simp) (show less e (hd ((l :: LL).headD [])) = true from hl)
      refine ⟨[], l, LL, rfl, (fun a h => by rw [show (l :: LL).headD [] = l from rfl, hl] at h; cases h), fun _ => ⟨rfl, plc_all _ _ fun q hq => hall q hq _ (hd_mem (hO.2 q hq))⟩, (fun q hq => by cases hq), fun q hq => hall q (List.mem_cons_of_mem _ hq)⟩
theorem place_spec {LL : List (List E)} (hO : Ok LL) (hne : LL ≠ []) (e : E) : ∃ pre L post, LL = pre ++ L :: post ∧ pre.length = place LL e ∧ (∀ l ∈ pre, ∀ x ∈ l, less x e = true) ∧ ∀ l ∈ post, ∀ x ∈ l, less e x = true := by
  obtain ⟨pre, L, post, h1, h2, h3, h4, h5⟩ := plc_spec e LL 0 hO hne (.inr rfl)
  refine ⟨pre, L, post, h1, ?_, h4, h5⟩
  unfold place
  cases hq : less e (hd (LL.headD []))
  · rw [h2 0 hq]; omega
  · obtain ⟨h6, h7⟩ := h3 hq
    rw [h7, h6]; rfl
section
variable {pre : List (List E)} {L : List E} {post : List (List E)} {e : E} (h1 : ∀ l ∈ pre, ∀ x ∈ l, less x e = true) (h2 : ∀ l ∈ post, ∀ x ∈ l, less e x = true)
include h1 h2
theorem mem_place : e ∈ (pre ++ L :: post).flatten ↔ e ∈ L := by
  rw [List.mem_flatten]
  constructor
  · rintro ⟨l, hl, he⟩
    rcases List.mem_append.1 hl with hl | hl
    · have := h1 l hl e he; rw [less_irr] at this; cases this
    · rcases List.mem_cons.1 hl with rfl | hl
      · exact he
      · have := h2 l hl e he; rw [less_irr] at this; cases this
  · intro h
    exact ⟨L, List.mem_append_right _ List.mem_cons_self, h⟩
theorem cnt_place : cntE (pre ++ L :: post).flatten e = pre.flatten.length + cntE L e := by
  unfold cntE
  rw [List.flatten_append, List.flatten_cons, List.countP_append, List.countP_append]
  have a : pre.flatten.countP (fun x => less x e) = pre.flatten.length := List.countP_eq_length.2 fun x hx => by
    obtain ⟨l, hl, hx⟩ := List.mem_flatten.1 hx
    exact h1 l hl x hx
  have b : post.flatten.countP (fun x => less x e) = 0 := List.countP_eq_zero.2 fun x hx hh => by
    obtain ⟨l, hl, hx⟩ := List.mem_flatten.1 hx
    have := less_as (h2 l hl x hx)
    rw [this] at hh; cases hh
  omega
theorem ins_place : insE (pre ++ L :: post).flatten e = (pre ++ insE L e :: post).flatten := by
  have hc : cntE L e ≤ L.length := List.countP_le_length
  unfold insE
  rw [cnt_place h1 h2]
  simp only [List.flatten_append, List.flatten_cons]
  have t : (pre.flatten ++ (L ++ post.flatten)).take (pre.flatten.length + cntE L e) = pre.flatten ++ L.take (cntE L e) := by
    rw [List.take_length_add_append, List.take_append_of_le_length hc]
  have d : (pre.flatten ++ (L ++ post.flatten)).drop (pre.flatten.length + cntE L e) = L.drop (cntE L e) ++ post.flatten := by
    rw [List.drop_length_add_append, List.drop_append_of_le_length hc]
  rw [t, d]
  simp
omit h2 in
theorem after_place : (pre ++ L :: post).flatten.find? (fun y => less e y) = (L :: post).flatten.find? (fun y => less e y) := by
  rw [List.flatten_append, List.find?_append, List.find?_eq_none.2]
  · rfl
  · intro x hx hh
    obtain ⟨l, hl, hx⟩ := List.mem_flatten.1 hx
    have := less_as (h1 l hl x hx)
    rw [this] at hh; cases hh
end
theorem split_flat (pre post : List (List E)) (l : List E) (k : Nat) : (pre ++ l.take k :: l.drop k :: post).flatten = (pre ++ l :: post).flatten := by
  simp only [List.flatten_append, List.flatten_cons, ← List.append_assoc]
  rw [List.append_assoc pre.flatten, List.take_append_drop]
theorem drop_cnt {l : List E} (h : Sor l) {e : E} (he : e ∈ l) : l.drop (cntE l e) = e :: l.drop (cntE l e + 1) := by
  obtain ⟨h1, h2⟩ := cnt_take h e
  have hm : e ∈ l.drop (cntE l e) := by
    rw [← List.take_append_drop (cntE l e) l] at he
    rcases List.mem_append.1 he with he | he
    · have := h1 e he; rw [less_irr] at this; cases this
    · exact he
  have hs : Sor (l.drop (cntE l e)) := h.sublist (List.drop_sublist _ _)
  have ht : l.drop (cntE l e + 1) = (l.drop (cntE l e)).tail := by rw [← List.drop_one, List.drop_drop]
  rw [ht]
  cases hd2 : l.drop (cntE l e) with
  | nil => rw [hd2] at hm; cases hm
  | cons y r =>
    rw [hd2] at hm hs
    rcases List.mem_cons.1 hm with rfl | hm
    · rfl
    · have := (List.pairwise_cons.1 hs).1 e hm
      have hy := h2 y (by rw [hd2]; exact List.mem_cons_self)
      rw [hy] at this; cases this
theorem at_cnt {l : List E} (h : Sor l) {e : E} : l[cntE l e]? = some e ↔ e ∈ l := by
  constructor
  · exact fun hh => List.mem_of_getElem? hh
  · intro he
    have := drop_cnt h he
    rw [← List.head?_drop, this]; rfl
/-- the entry taken out -/
def eraE (l : List E) (e : E) : List E := l.take (cntE l e) ++ l.drop (cntE l e + 1)
theorem era_eq {l : List E} (h : Sor l) {e : E} (he : e ∈ l) : eraE l e = l.filter fun x => decide (x ≠ e) := by
  have hd2 := drop_cnt h he
  obtain ⟨h1, h2⟩ := cnt_take h e
  have hs : Sor (l.drop (cntE l e)) := h.sublist (List.drop_sublist _ _)
  rw [hd2] at hs
  conv => rhs; rw [← List.take_append_drop (cntE l e) l, hd2, List.filter_append]
  unfold eraE
  congr 1
  · exact (List.filter_eq_self.2 fun x hx => decide_eq_true (less_ne (h1 x hx))).symm
  · rw [List.filter_cons_of_neg (by simp)]
    exact (List.filter_eq_self.2 fun x hx => decide_eq_true (less_ne ((List.pairwise_cons.1 hs).1 x hx)).symm).symm
theorem filter_place {pre : List (List E)} {L : List E} {post : List (List E)} {e : E} (h1 : ∀ l ∈ pre, ∀ x ∈ l, less x e = true) (h2 : ∀ l ∈ post, ∀ x ∈ l, less e x = true) (hs : Sor L) (he : e ∈ L) :
    (pre ++ L :: post).flatten.filter (fun x => decide (x ≠ e)) = (pre ++ eraE L e :: post).flatten := by
  rw [era_eq hs he]
  simp only [List.flatten_append, List.flatten_cons, List.filter_append]
  congr 1
  · exact List.filter_eq_self.2 fun x hx => by
      obtain ⟨l, hl, hx⟩ := List.mem_flatten.1 hx
      exact decide_eq_true (less_ne (h1 l hl x hx))
  · congr 1
    exact List.filter_eq_self.2 fun x hx => by
      obtain ⟨l, hl, hx⟩ := List.mem_flatten.1 hx
      exact decide_eq_true (less_ne (h2 l hl x hx)).symm
theorem flat_nil (pre post : List (List E)) : (pre ++ [] :: post).flatten = (pre ++ post).flatten := by simp
end Go.Proofs.Ytncneoggnoiknaa.Du

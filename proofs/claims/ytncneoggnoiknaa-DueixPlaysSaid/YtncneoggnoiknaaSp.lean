/- The plain law of shelves: no program. -/
import GoSem.Op.String
import Derived.Lib.Strings
namespace Go.Proofs.Ytncneoggnoiknaa.Sp
/-- an entry: its key and its value -/
abbrev Ent := ByteArray × Int
def lt (a b : ByteArray) : Bool := Op.bytesLess a.toList b.toList
theorem less_irrefl : ∀ x : List UInt8, Op.bytesLess x x = false
  | [] => rfl
  | a :: x => by simp [Op.bytesLess, less_irrefl x]
theorem less_trans : ∀ {x y z : List UInt8}, Op.bytesLess x y = true → Op.bytesLess y z = true → Op.bytesLess x z = true
  | _, [], _, h, _ => by cases ‹List UInt8› <;> simp [Op.bytesLess] at h
  | _, _ :: _, [], _, h => by simp [Op.bytesLess] at h
  | [], _ :: _, _ :: _, _, _ => rfl
  | a :: x, b :: y, c :: z, h, k => by
    simp only [Op.bytesLess, Bool.or_eq_true, Bool.and_eq_true, decide_eq_true_eq, beq_iff_eq] at h k ⊢
    rcases h with h | ⟨rfl, h⟩ <;> rcases k with k | ⟨rfl, k⟩
    · exact .inl (UInt8.lt_trans h k)
    · exact .inl h
    · exact .inl k
    · exact .inr ⟨rfl, less_trans h k⟩
theorem less_tri : ∀ {x y : List UInt8}, Op.bytesLess x y = false → Op.bytesLess y x = false → x = y
  | [], [], _, _ => rfl
  | [], _ :: _, h, _ => by simp [Op.bytesLess] at h
  | _ :: _, [], _, h => by simp [Op.bytesLess] at h
  | a :: x, b :: y, h, k => by
    simp only [Op.bytesLess, Bool.or_eq_false_iff, Bool.and_eq_false_iff, decide_eq_false_iff_not, beq_eq_false_iff_ne] at h k
    have hab : a = b := by
      have h1 := UInt8.not_lt.1 h.1
      have h2 := UInt8.not_lt.1 k.1
      exact UInt8.le_antisymm h2 h1
    subst hab
    have hxy : x = y := less_tri (by simpa using h.2) (by simpa using k.2)
    rw [hxy]
theorem toList_inj {a b : ByteArray} (h : a.toList = b.toList) : a = b := by
  rw [Lib.toList_data, Lib.toList_data] at h
  cases a; cases b
  simp at h
  rw [h]
theorem eq_iff (a b : ByteArray) : (a.toList == b.toList) = decide (a = b) := by
  rw [Bool.eq_iff_iff, beq_iff_eq, decide_eq_true_iff]
  exact ⟨toList_inj, fun h => by rw [h]⟩
theorem lt_irrefl (a : ByteArray) : lt a a = false := less_irrefl _
theorem lt_trans {a b c : ByteArray} (h : lt a b = true) (k : lt b c = true) : lt a c = true := less_trans h k
theorem lt_tri {a b : ByteArray} (h : lt a b = false) (k : lt b a = false) : a = b := toList_inj (less_tri h k)
theorem lt_asymm {a b : ByteArray} (h : lt a b = true) : lt b a = false := by
  cases k : lt b a
  · rfl
  · have := lt_trans h k; rw [lt_irrefl] at this; cases this
theorem lt_ne {a b : ByteArray} (h : lt a b = true) : a ≠ b := by
  rintro rfl; rw [lt_irrefl] at h; cases h
/-- a shelf: its keys rise -/
def Sorted (es : List Ent) : Prop := es.Pairwise fun a b => lt a.1 b.1 = true
def cnt (es : List Ent) (t : ByteArray) : Nat := es.countP fun e => lt e.1 t
def has (es : List Ent) (t : ByteArray) : Bool := es.any fun e => decide (e.1 = t)
theorem cnt_le (es : List Ent) (t : ByteArray) : cnt es t ≤ es.length := List.countP_le_length
theorem cnt_zero {es : List Ent} {t : ByteArray} (h : ∀ e ∈ es, lt e.1 t = false) : cnt es t = 0 := by
  unfold cnt
  rw [List.countP_eq_zero]
  intro e he; rw [h e he]; simp
theorem cnt_spec {es : List Ent} (hs : Sorted es) (t : ByteArray) : ∀ h (hh : h < es.length), lt es[h].1 t = decide (h < cnt es t) := by
  induction es with
  | nil => intro h hh; simp at hh
  | cons e es ih =>
    have hs' := List.pairwise_cons.1 hs
    intro h hh
    cases he : lt e.1 t
    · have h0 : cnt (e :: es) t = 0 := cnt_zero fun x hx => by
        rcases List.mem_cons.1 hx with rfl | hx
        · exact he
        · cases hk : lt x.1 t
          · rfl
          · have := lt_trans (hs'.1 x hx) hk; rw [he] at this; cases this
      rw [h0]
      have := (List.countP_eq_zero.1 h0) (e :: es)[h] (List.getElem_mem hh)
      simpa using this
    · have h1 : cnt (e :: es) t = cnt es t + 1 := by unfold cnt; exact List.countP_cons_of_pos (p := fun e : Ent => lt e.1 t) he
      rw [h1]
      cases h with
      | zero => simpa using he
      | succ h =>
        rw [List.getElem_cons_succ, ih hs'.2 h (by simpa using hh)]
        simp
theorem has_spec {es : List Ent} (hs : Sorted es) (t : ByteArray) : has es t = (decide (cnt es t < es.length) && decide ((es.getD (cnt es t) default).1 = t)) := by
  by_cases hc : cnt es t < es.length
  · rw [decide_eq_true hc, Bool.true_and]
    have hg : es.getD (cnt es t) default = es[cnt es t] := by simp [List.getD, hc]
    rw [hg, Bool.eq_iff_iff, decide_eq_true_iff]
    unfold has
    rw [List.any_eq_true]
    constructor
    · rintro ⟨x, hx, hxt⟩
      obtain ⟨i, hi, rfl⟩ := List.getElem_of_mem hx
      have hxt : es[i].1 = t := by simpa using hxt
      have h1 := cnt_spec hs t i hi
      rw [hxt, lt_irrefl] at h1
      have h1 : ¬ i < cnt es t := by simpa using h1.symm
      by_cases e : i = cnt es t
      · subst e; exact hxt
      · have h2 := List.pairwise_iff_getElem.1 hs (cnt es t) i hc hi (by omega)
        have h3 := cnt_spec hs t (cnt es t) hc
        rw [hxt] at h2
        rw [h2] at h3
        simp at h3
    · intro h
      exact ⟨_, List.getElem_mem hc, by simpa using h⟩
  · rw [decide_eq_false hc, Bool.false_and]
    unfold has
    rw [List.any_eq_false]
    intro x hx hxt
    have hxt : x.1 = t := by simpa using hxt
    obtain ⟨i, hi, rfl⟩ := List.getElem_of_mem hx
    have h1 := cnt_spec hs t i hi
    rw [hxt, lt_irrefl] at h1
    have h1 : ¬ i < cnt es t := by simpa using h1.symm
    omega
theorem take_snoc (es : List Ent) (k : Nat) (h : k < es.length) : es.take (k + 1) = es.take k ++ [es[k]] := by
  rw [List.take_succ_eq_append_getElem h]
theorem cnt_snoc_yes {l : List Ent} {e : Ent} {t : ByteArray} (h : lt e.1 t = true) : cnt (l ++ [e]) t = cnt l t + 1 := by
  unfold cnt; rw [List.countP_append, List.countP_cons_of_pos (p := fun e : Ent => lt e.1 t) h]; rfl
theorem cnt_snoc_no {l : List Ent} {e : Ent} {t : ByteArray} (h : lt e.1 t = false) : cnt (l ++ [e]) t = cnt l t := by
  unfold cnt; rw [List.countP_append, List.countP_cons_of_neg (p := fun e : Ent => lt e.1 t) (by rw [h]; simp)]; rfl
theorem cnt_snoc (l : List Ent) (e : Ent) (t : ByteArray) : cnt (l ++ [e]) t = cnt l t + (if Op.bytesLess e.1.toList t.toList = true then 1 else 0) := by
  cases h : Op.bytesLess e.1.toList t.toList
  · rw [cnt_snoc_no h]; simp
  · rw [cnt_snoc_yes h]; simp
theorem has_snoc (l : List Ent) (e : Ent) (t : ByteArray) : has (l ++ [e]) t = (has l t || (e.1.toList == t.toList)) := by
  unfold has; rw [List.any_append, eq_iff]; simp
end Go.Proofs.Ytncneoggnoiknaa.Sp

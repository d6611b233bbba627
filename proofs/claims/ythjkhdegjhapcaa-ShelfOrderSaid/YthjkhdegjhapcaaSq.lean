/- The plain law of shelves: what the program's Put, Drop, Between and Get make of a shelf is what the reference's make of it. -/
import Derived.Test.YthjkhdegjhapcaaSk
namespace Go.Proofs.Ythjkhdegjhapcaa.Sa
open Go.RowKit Sp
/-- an entry into its place -/
def ins (t : ByteArray) (x : Int) : List Ent → List Ent
  | [] => [(t, x)]
  | e :: r => if lt e.1 t = true then e :: ins t x r else if e.1 = t then (t, x) :: r else (t, x) :: e :: r
theorem after_ge {e : Ent} {r : List Ent} {t : ByteArray} (hs : Sorted (e :: r)) (h : lt e.1 t = false) : ∀ d ∈ r, lt d.1 t = false ∧ d.1 ≠ t := by
  intro d hd
  have h1 : lt e.1 d.1 = true := (List.pairwise_cons.mp hs).1 d hd
  constructor
  · cases h2 : lt d.1 t
    · rfl
    · rw [lt_trans h1 h2] at h; cases h
  · intro h2; rw [← h2, h1] at h; cases h
theorem sorted_tail {e : Ent} {r : List Ent} (hs : Sorted (e :: r)) : Sorted r := (List.pairwise_cons.mp hs).2
theorem cnt_cons (e : Ent) (r : List Ent) (t : ByteArray) : cnt (e :: r) t = cnt r t + if lt e.1 t = true then 1 else 0 := by
  unfold cnt; rw [List.countP_cons]
theorem has_cons (e : Ent) (r : List Ent) (t : ByteArray) : has (e :: r) t = (decide (e.1 = t) || has r t) := by
  unfold has; rw [List.any_cons]
theorem cnt_after {e : Ent} {r : List Ent} {t : ByteArray} (hs : Sorted (e :: r)) (h : lt e.1 t = false) : cnt r t = 0 := cnt_zero fun d hd => (after_ge hs h d hd).1
theorem has_after {e : Ent} {r : List Ent} {t : ByteArray} (hs : Sorted (e :: r)) (h : lt e.1 t = false) : has r t = false := by
  unfold has
  rw [List.any_eq_false]
  intro d hd
  simpa using (after_ge hs h d hd).2
theorem pput_ins {es : List Ent} (t : ByteArray) (x : Int) (hs : Sorted es) : pput es t x = ins t x es := by
  induction es with
  | nil => rfl
  | cons e r ih =>
    have ih := ih (sorted_tail hs)
    unfold pput at ih ⊢
    rw [cnt_cons, has_cons]
    cases h : lt e.1 t
    · rw [cnt_after hs h, has_after hs h]
      by_cases he : e.1 = t
      · simp [ins, he, lt_irrefl]
      · simp [ins, h, he]
    · have hne : ¬ e.1 = t := lt_ne h
      simp only [hne, decide_false, Bool.false_or, if_true, ins, h]
      rw [List.take_succ_cons, Nat.add_right_comm, List.drop_succ_cons, List.cons_append, ih]
theorem fold_done (t : ByteArray) (x : Int) : ∀ (l s : List Ent), l.foldl (rstep t x) (s, true) = (s ++ rdrop l t, true)
  | [], s => by simp [rdrop]
  | e :: l, s => by
    rw [List.foldl_cons]
    have : rstep t x (s, true) e = (s ++ (if (e.1.toList == t.toList) = true then [] else [e]), true) := by unfold rstep; simp
    rw [this, fold_done t x l]
    unfold rdrop
    rw [List.filter_cons]
    cases (e.1.toList == t.toList) <;> simp
theorem rdrop_after {e : Ent} {r : List Ent} {t : ByteArray} (hs : Sorted (e :: r)) (h : lt e.1 t = false) : rdrop r t = r := by
  unfold rdrop
  rw [List.filter_eq_self]
  intro d hd
  rw [eq_iff]
  simpa using (after_ge hs h d hd).2
theorem fold_ins (t : ByteArray) (x : Int) : ∀ (l s : List Ent), Sorted l →
    (if (l.foldl (rstep t x) (s, false)).2 then (l.foldl (rstep t x) (s, false)).1 else (l.foldl (rstep t x) (s, false)).1 ++ [(t, x)]) = s ++ ins t x l
  | [], s, _ => by simp [ins]
  | e :: l, s, hs => by
    rw [List.foldl_cons]
    cases h : lt e.1 t
    · have h' : Op.bytesLess e.1.toList t.toList = false := h
      have : rstep t x (s, false) e = (s ++ [(t, x)] ++ (if (e.1.toList == t.toList) = true then [] else [e]), true) := by unfold rstep; simp [h']
      rw [this, fold_done, rdrop_after hs h, if_pos rfl, eq_iff]
      by_cases he : e.1 = t
      · simp [ins, he, lt_irrefl]
      · simp [ins, h, he]
    · have h' : Op.bytesLess e.1.toList t.toList = true := h
      have hne : (e.1.toList == t.toList) = false := by rw [eq_iff]; simpa using lt_ne h
      have : rstep t x (s, false) e = (s ++ [e], false) := by unfold rstep; simp [h', hne]
      rw [this, fold_ins t x l _ (sorted_tail hs)]
      simp [ins, h]
theorem rput_ins {es : List Ent} (t : ByteArray) (x : Int) (hs : Sorted es) : rput es t x = ins t x es := by
  have := fold_ins t x es [] hs
  rw [List.nil_append] at this
  exact this
theorem pdrop_eq {es : List Ent} (t : ByteArray) (hs : Sorted es) : pdrop es t = rdrop es t := by
  induction es with
  | nil => rfl
  | cons e r ih =>
    have ih := ih (sorted_tail hs)
    cases h : lt e.1 t
    · have hd := rdrop_after hs h
      unfold pdrop
      rw [cnt_cons, has_cons, cnt_after hs h, has_after hs h]
      unfold rdrop at hd ⊢
      rw [List.filter_cons, hd, eq_iff]
      by_cases he : e.1 = t
      · simp [he, lt_irrefl]
      · simp [h, he]
    · have hne : ¬ e.1 = t := lt_ne h
      unfold pdrop at ih ⊢
      rw [cnt_cons, has_cons]
      unfold rdrop at ih ⊢
      rw [List.filter_cons, eq_iff, ← ih]
      simp only [hne, decide_false, Bool.false_or, if_true, h, Bool.not_false]
      rw [List.take_succ_cons, Nat.add_right_comm, List.drop_succ_cons, List.cons_append]
theorem pbetween_eq {es : List Ent} (f t : ByteArray) (hs : Sorted es) : pbetween es f t = rbetween es f t := by
  induction es with
  | nil => simp [pbetween, rbetween]
  | cons e r ih =>
    have ih := ih (sorted_tail hs)
    unfold pbetween rbetween at ih ⊢
    rw [cnt_cons, cnt_cons, List.filter_cons]
    show _ = if (!(lt e.1 f) && lt e.1 t) = true then _ else _
    cases h2 : lt e.1 t
    · have hz := cnt_after hs h2
      rw [hz]
      have : r.filter (fun e => !(Op.bytesLess e.1.toList f.toList) && Op.bytesLess e.1.toList t.toList) = [] := by
        rw [List.filter_eq_nil_iff]
        intro d hd
        have : Op.bytesLess d.1.toList t.toList = false := (after_ge hs h2 d hd).1
        simp [this]
      rw [this]
      simp
    · cases h1 : lt e.1 f
      · have hz := cnt_after hs h1
        rw [hz] at ih ⊢
        simp only [Bool.not_false, Bool.true_and, if_true]
        rw [← ih]
        cases hc : cnt r t with
        | zero => simp
        | succ m => simp
      · simp only [Bool.not_true, Bool.false_and, if_true, Bool.false_eq_true, if_false]
        rw [← ih]
        by_cases hc : cnt r t ≤ cnt r f
        · rw [if_pos hc, if_pos (by omega)]
        · rw [if_neg hc, if_neg (by omega), List.drop_succ_cons, Nat.add_sub_add_right]
theorem mem_ins {t : ByteArray} {x : Int} {d : Ent} : ∀ {es : List Ent}, Sorted es → (d ∈ ins t x es ↔ d = (t, x) ∨ (d ∈ es ∧ d.1 ≠ t))
  | [], _ => by simp [ins]
  | e :: r, hs => by
    unfold ins
    cases h : lt e.1 t
    · have ha := after_ge hs h
      by_cases he : e.1 = t
      · simp only [he, if_true, Bool.false_eq_true, if_false, List.mem_cons]
        constructor
        · rintro (h1 | h1)
          · exact .inl h1
          · exact .inr ⟨.inr h1, (ha d h1).2⟩
        · rintro (h1 | ⟨h1 | h1, h2⟩)
          · exact .inl h1
          · rw [h1] at h2; exact absurd he h2
          · exact .inr h1
      · simp only [he, Bool.false_eq_true, if_false, List.mem_cons]
        constructor
        · rintro (h1 | h1 | h1)
          · exact .inl h1
          · exact .inr ⟨.inl h1, by rw [h1]; exact he⟩
          · exact .inr ⟨.inr h1, (ha d h1).2⟩
        · rintro (h1 | ⟨h1 | h1, h2⟩)
          · exact .inl h1
          · exact .inr (.inl h1)
          · exact .inr (.inr h1)
    · simp only [if_true, List.mem_cons, mem_ins (sorted_tail hs)]
      constructor
      · rintro (h1 | h1 | ⟨h1, h2⟩)
        · exact .inr ⟨.inl h1, by rw [h1]; exact lt_ne h⟩
        · exact .inl h1
        · exact .inr ⟨.inr h1, h2⟩
      · rintro (h1 | ⟨h1 | h1, h2⟩)
        · exact .inr (.inl h1)
        · exact .inl h1
        · exact .inr (.inr ⟨h1, h2⟩)
theorem sorted_ins {t : ByteArray} {x : Int} : ∀ {es : List Ent}, Sorted es → Sorted (ins t x es)
  | [], _ => by simp [ins, Sorted]
  | e :: r, hs => by
    have ⟨h1, h2⟩ := List.pairwise_cons.mp hs
    unfold ins
    cases h : lt e.1 t
    · have hg : e.1 ≠ t → lt t e.1 = true := fun hne => by
        cases hh : lt t e.1
        · exact absurd (lt_tri h hh) hne
        · rfl
      by_cases he : e.1 = t
      · simp only [he, if_true, Bool.false_eq_true, if_false]
        exact List.pairwise_cons.mpr ⟨fun d hd => by have := h1 d hd; rwa [he] at this, h2⟩
      · simp only [he, Bool.false_eq_true, if_false]
        refine List.pairwise_cons.mpr ⟨fun d hd => ?_, hs⟩
        rcases List.mem_cons.mp hd with h3 | h3
        · rw [h3]; exact hg he
        · exact lt_trans (hg he) (h1 d h3)
    · simp only [if_true]
      refine List.pairwise_cons.mpr ⟨fun d hd => ?_, sorted_ins (sorted_tail hs)⟩
      rcases (mem_ins (sorted_tail hs)).mp hd with h3 | ⟨h3, _⟩
      · rw [h3]; exact h
      · exact h1 d h3
theorem sorted_rdrop {es : List Ent} (t : ByteArray) (hs : Sorted es) : Sorted (rdrop es t) := List.Pairwise.filter _ hs
theorem ins_len (t : ByteArray) (x : Int) : ∀ (es : List Ent), (ins t x es).length ≤ es.length + 1
  | [] => by simp [ins]
  | e :: r => by
    have := ins_len t x r
    unfold ins
    repeat' split
    all_goals simp only [List.length_cons] at this ⊢
    all_goals omega
theorem ins_len_new {t : ByteArray} {x : Int} : ∀ {es : List Ent}, (∀ e ∈ es, e.1 ≠ t) → (ins t x es).length = es.length + 1
  | [], _ => by simp [ins]
  | e :: r, h => by
    have := ins_len_new (t := t) (x := x) (es := r) fun d hd => h d (List.mem_cons_of_mem _ hd)
    unfold ins
    rw [if_neg (h e (List.mem_cons_self ..))]
    split
    all_goals simp only [List.length_cons] at this ⊢
    all_goals omega
/-- the shelf of what is put, one behind the other -/
def mk (l : List Ent) : List Ent := l.foldl (fun s e => ins e.1 e.2 s) []
theorem mk_snoc (l : List Ent) (e : Ent) : mk (l ++ [e]) = ins e.1 e.2 (mk l) := by unfold mk; rw [List.foldl_append]; rfl
theorem mk_sorted_aux : ∀ (l s : List Ent), Sorted s → Sorted (l.foldl (fun s e => ins e.1 e.2 s) s)
  | [], _, hs => hs
  | e :: l, s, hs => by rw [List.foldl_cons]; exact mk_sorted_aux l _ (sorted_ins hs)
theorem mk_sorted (l : List Ent) : Sorted (mk l) := mk_sorted_aux l [] List.Pairwise.nil
theorem mk_len_aux : ∀ (l s : List Ent), (l.foldl (fun s e => ins e.1 e.2 s) s).length ≤ s.length + l.length
  | [], s => by simp
  | e :: l, s => by
    rw [List.foldl_cons, List.length_cons]
    have := mk_len_aux l (ins e.1 e.2 s)
    have := ins_len e.1 e.2 s
    omega
theorem mk_len (l : List Ent) : (mk l).length ≤ l.length := by unfold mk; simpa using mk_len_aux l []
theorem rget_mem {es : List Ent} {t : ByteArray} {x : Int} (hs : Sorted es) : rget es t = some x ↔ (t, x) ∈ es := by
  induction es with
  | nil => simp [rget]
  | cons e r ih =>
    have ih := ih (sorted_tail hs)
    by_cases he : e.1 = t
    · rw [rget_yes he]
      constructor
      · intro h; cases h; rw [← he]; exact List.mem_cons_self ..
      · intro h
        rcases List.mem_cons.mp h with h1 | h1
        · rw [← h1]
        · have := (List.pairwise_cons.mp hs).1 _ h1
          exact absurd he (lt_ne this)
    · rw [rget_no he, ih, List.mem_cons]
      constructor
      · exact .inr
      · rintro (h | h)
        · rw [← h] at he; exact absurd rfl he
        · exact h
theorem rget_none {es : List Ent} {t : ByteArray} : rget es t = none ↔ ∀ e ∈ es, e.1 ≠ t := by
  induction es with
  | nil => simp [rget]
  | cons e r ih =>
    by_cases he : e.1 = t
    · rw [rget_yes he]; simp [he]
    · rw [rget_no he, ih]; simp [he]
theorem has_rget (es : List Ent) (t : ByteArray) : has es t = (rget es t).isSome := by
  induction es with
  | nil => rfl
  | cons e r ih =>
    rw [has_cons]
    by_cases he : e.1 = t
    · rw [rget_yes he]; simp [he]
    · rw [rget_no he, ih]; simp [he]
theorem getV_rget {es : List Ent} (t : ByteArray) (hs : Sorted es) : getV es t = (rget es t).getD 0 := by
  unfold getV
  cases h : has es t
  · rw [has_rget] at h
    have : rget es t = none := by cases hr : rget es t with
      | none => rfl
      | some _ => rw [hr] at h; cases h
    rw [this]; rfl
  · have h1 := has_spec hs t
    rw [h] at h1
    have h2 := (Bool.and_eq_true_iff.mp h1.symm)
    have hlt := of_decide_eq_true h2.1
    have he := of_decide_eq_true h2.2
    rw [if_pos rfl]
    have : rget es t = some (es.getD (cnt es t) default).2 := by
      rw [rget_mem hs]
      have e1 : es.getD (cnt es t) default = es[cnt es t] := by rw [List.getD_eq_getElem?_getD, List.getElem?_eq_getElem hlt]; rfl
      rw [e1] at he ⊢
      have : es[cnt es t] ∈ es := List.getElem_mem hlt
      generalize es[cnt es t] = d at he this ⊢
      rw [← he]; exact this
    rw [this]; rfl
theorem rget_ins {es : List Ent} {t u : ByteArray} {x : Int} (hs : Sorted es) : rget (ins t x es) u = if u = t then some x else rget es u := by
  have hi := sorted_ins (t := t) (x := x) hs
  by_cases h : u = t
  · rw [if_pos h, rget_mem hi, mem_ins hs]; exact .inl (by rw [h])
  · rw [if_neg h]
    cases hr : rget es u with
    | none =>
      rw [rget_none] at hr ⊢
      intro e he
      rcases (mem_ins hs).mp he with h1 | ⟨h1, _⟩
      · rw [h1]; exact fun h2 => h h2.symm
      · exact hr e h1
    | some y =>
      rw [rget_mem hs] at hr
      rw [rget_mem hi, mem_ins hs]
      exact .inr ⟨hr, h⟩
theorem rget_rdrop {es : List Ent} {t u : ByteArray} : rget (rdrop es t) u = if u = t then none else rget es u := by
  induction es with
  | nil => simp [rget, rdrop]
  | cons e r ih =>
    unfold rdrop at ih ⊢
    rw [List.filter_cons, eq_iff]
    by_cases h1 : e.1 = t
    · simp only [h1, decide_true, Bool.not_true, Bool.false_eq_true, if_false]
      rw [ih]
      by_cases h2 : u = t
      · rw [if_pos h2, if_pos h2]
      · rw [if_neg h2, if_neg h2, rget_no (by rw [h1]; exact fun h3 => h2 h3.symm)]
    · simp only [h1, decide_false, Bool.not_false, if_true]
      by_cases h3 : e.1 = u
      · rw [rget_yes h3, rget_yes h3, if_neg (by rw [← h3]; exact h1)]
      · rw [rget_no h3, rget_no h3, ih]
/-- sorted lists with the same entries are the same -/
theorem sorted_ext : ∀ {a b : List Ent}, Sorted a → Sorted b → (∀ e, e ∈ a ↔ e ∈ b) → a = b
  | [], [], _, _, _ => rfl
  | [], d :: b, _, _, h => by have := (h d).mpr (List.mem_cons_self ..); cases this
  | d :: a, [], _, _, h => by have := (h d).mp (List.mem_cons_self ..); cases this
  | d :: a, e :: b, ha, hb, h => by
    have ⟨a1, a2⟩ := List.pairwise_cons.mp ha
    have ⟨b1, b2⟩ := List.pairwise_cons.mp hb
    have hde : d = e := by
      rcases List.mem_cons.mp ((h d).mp (List.mem_cons_self ..)) with h1 | h1
      · exact h1
      · rcases List.mem_cons.mp ((h e).mpr (List.mem_cons_self ..)) with h2 | h2
        · exact h2.symm
        · have := b1 d h1
          rw [lt_asymm (a1 e h2)] at this; cases this
    subst hde
    refine congrArg _ (sorted_ext a2 b2 fun x => ?_)
    constructor
    · intro hx
      rcases List.mem_cons.mp ((h x).mp (List.mem_cons_of_mem _ hx)) with h1 | h1
      · rw [h1] at hx; have := a1 d hx; rw [lt_irrefl] at this; cases this
      · exact h1
    · intro hx
      rcases List.mem_cons.mp ((h x).mpr (List.mem_cons_of_mem _ hx)) with h1 | h1
      · rw [h1] at hx; have := b1 d hx; rw [lt_irrefl] at this; cases this
      · exact h1
def Unlike (l : List Ent) : Prop := l.Pairwise fun a b => a.1 ≠ b.1
theorem mem_mk_aux : ∀ (l s : List Ent), Sorted s → Unlike l → (∀ a ∈ s, ∀ b ∈ l, a.1 ≠ b.1) → (∀ d, d ∈ l.foldl (fun s e => ins e.1 e.2 s) s ↔ d ∈ s ∨ d ∈ l) ∧ (l.foldl (fun s e => ins e.1 e.2 s) s).length = s.length + l.length
  | [], s, _, _, _ => by simp
  | e :: l, s, hs, hu, hx => by
    have ⟨u1, u2⟩ := List.pairwise_cons.mp hu
    rw [List.foldl_cons]
    have hsi := sorted_ins (t := e.1) (x := e.2) hs
    have := mem_mk_aux l (ins e.1 e.2 s) hsi u2 (by
      intro a ha b hb
      rcases (mem_ins hs).mp ha with h1 | ⟨h1, _⟩
      · rw [h1]; exact u1 b hb
      · exact hx a h1 b (List.mem_cons_of_mem _ hb))
    refine ⟨fun d => ?_, ?_⟩
    · rw [this.1 d, mem_ins hs, List.mem_cons]
      constructor
      · rintro ((h1 | ⟨h1, _⟩) | h1)
        · exact .inr (.inl h1)
        · exact .inl h1
        · exact .inr (.inr h1)
      · rintro (h1 | h1 | h1)
        · exact .inl (.inr ⟨h1, hx d h1 e (List.mem_cons_self ..)⟩)
        · exact .inl (.inl h1)
        · exact .inr h1
    · rw [this.2, ins_len_new (fun a ha => hx a ha e (List.mem_cons_self ..)), List.length_cons]; omega
theorem mk_len_unlike {l : List Ent} (hu : Unlike l) : (mk l).length = l.length := by
  have := (mem_mk_aux l [] List.Pairwise.nil hu (by intro a ha; cases ha)).2
  unfold mk; simpa using this
theorem mk_reverse {l : List Ent} (hu : Unlike l) : mk l.reverse = mk l := by
  have hr : Unlike l.reverse := by
    unfold Unlike
    rw [List.pairwise_reverse]
    exact hu.imp fun h => fun h' => h h'.symm
  refine sorted_ext (mk_sorted _) (mk_sorted _) fun e => ?_
  have h1 := (mem_mk_aux l [] List.Pairwise.nil hu (by intro a ha; cases ha)).1 e
  have h2 := (mem_mk_aux l.reverse [] List.Pairwise.nil hr (by intro a ha; cases ha)).1 e
  unfold mk
  rw [h1, h2]; simp
end Go.Proofs.Ythjkhdegjhapcaa.Sa

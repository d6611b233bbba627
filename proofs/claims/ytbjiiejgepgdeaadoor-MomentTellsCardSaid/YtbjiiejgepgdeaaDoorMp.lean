/- The plain laws of moments: what is printed is parsed as it was, what is parsed is printed as it was, and texts stand in the order of their seconds. -/
import Derived.Test.YtbjiiejgepgdeaaDoorMo
import GoSem.Op.String
namespace Go.Proofs.YtbjiiejgepgdeaaDoor.Mo
theorem fields_wid {a b c : Nat} {x y z : Int} (x0 : 0 ≤ x) (x1 : x < 10 ^ a) (y0 : 0 ≤ y) (y1 : y < 10 ^ b) (z0 : 0 ≤ z) (z1 : z < 10 ^ c) :
    fields [a, b, c] (wid a x ++ wid b y ++ wid c z) = some [x, y, z] := by
  have t1 : (wid a x ++ (wid b y ++ wid c z)).take a = wid a x := List.take_left' (wid_len a x)
  have t2 : (wid a x ++ (wid b y ++ wid c z)).drop a = wid b y ++ wid c z := List.drop_left' (wid_len a x)
  have t3 : (wid b y ++ wid c z).take b = wid b y := List.take_left' (wid_len b y)
  have t4 : (wid a x ++ wid b y ++ wid c z).drop (a + b) = wid c z := List.drop_left' (by simp [wid_len])
  rw [fields3 _ _ _ _ (by simp [wid_len]; omega)]
  have hall : (wid a x ++ wid b y ++ wid c z).all dig = true := by simp only [List.all_append, wid_dig, Bool.and_self]
  rw [if_pos hall, t4, List.append_assoc, t1, t2, t3, num_wid _ _ x0 x1, num_wid _ _ y0 y1, num_wid _ _ z0 z1]
def dayT (n : Int) : List UInt8 := wid 4 (Civ.dateY n) ++ wid 2 (Civ.dateM n) ++ wid 2 (Civ.dateD n)
def timeT (r : Int) : List UInt8 := wid 2 (r / 3600) ++ wid 2 (r / 60 % 60) ++ wid 2 (r % 60)
theorem dayT_len (n : Int) : (dayT n).length = 8 := by simp [dayT, wid_len]
theorem timeT_len (n : Int) : (timeT n).length = 6 := by simp [timeT, wid_len]
theorem text1 (s : Int) : text 1 s = dayT (s / 86400) := by simp [text, dayT]
theorem text2 (s : Int) : text 2 s = dayT (s / 86400) ++ 84 :: timeT (s % 86400) := by simp [text, dayT, timeT]
theorem text3 (s : Int) : text 3 s = dayT (s / 86400) ++ 84 :: (timeT (s % 86400) ++ [90]) := by simp [text, dayT, timeT]
theorem day_bds {n : Int} (h1 : 0 ≤ n) (h2 : n ≤ 3652058) : fields [4, 2, 2] (dayT n) = some [Civ.dateY n, Civ.dateM n, Civ.dateD n] := by
  obtain ⟨a1, a2, b1, b2, c1, c2, _⟩ := Civ.date_spec h1 h2
  have := (Civ.len_bd (Civ.dateY n) (Civ.dateM n)).2
  exact fields_wid (by omega) (by omega) (by omega) (by omega) (by omega) (by omega)
theorem time_bds {r : Int} (h1 : 0 ≤ r) (h2 : r < 86400) : fields [2, 2, 2] (timeT r) = some [r / 3600, r / 60 % 60, r % 60] :=
  fields_wid (by omega) (by omega) (by omega) (by omega) (by omega) (by omega)
theorem mk_day {n k h i s : Int} (h1 : 0 ≤ n) (h2 : n ≤ 3652058) (hh : h ≤ 23) (hi : i ≤ 59) (hs : s ≤ 59) :
    mk k (Civ.dateY n) (Civ.dateM n) (Civ.dateD n) h i s = (k, n * 86400 + (h * 60 + i) * 60 + s, 0) := by
  obtain ⟨a1, a2, b1, b2, c1, c2, e⟩ := Civ.date_spec h1 h2
  obtain ⟨d1, d2⟩ := Civ.day_of c1 c2
  unfold mk
  rw [d1, d2, e, if_neg (by omega)]
theorem six : fields [2, 2, 2] [48, 48, 48, 48, 48, 48] = some [0, 0, 0] := by decide
theorem form_D {a : List UInt8} (h : a.length = 8) : form a = some (1, a, [48, 48, 48, 48, 48, 48]) := by unfold form; rw [if_pos h]
theorem form_L {a b : List UInt8} (h : a.length = 8) (h' : b.length = 6) : form (a ++ 84 :: b) = some (2, a, b) := by
  have e1 : (a ++ 84 :: b).length = 15 := by simp [h, h']
  have e2 : (a ++ 84 :: b)[8]? = some 84 := by rw [List.getElem?_append_right (by omega)]; simp [h]
  have e3 : (a ++ 84 :: b).take 8 = a := List.take_left' h
  have e4 : (a ++ 84 :: b).drop 9 = b := by
    have : a ++ 84 :: b = (a ++ [84]) ++ b := by simp
    rw [this]; exact List.drop_left' (by simp [h])
  unfold form
  rw [e1, e2, e3, e4]; rfl
theorem form_U {a b : List UInt8} (h : a.length = 8) (h' : b.length = 6) : form (a ++ 84 :: (b ++ [90])) = some (3, a, b) := by
  have e1 : (a ++ 84 :: (b ++ [90])).length = 16 := by simp [h, h']
  have e2 : (a ++ 84 :: (b ++ [90]))[8]? = some 84 := by rw [List.getElem?_append_right (by omega)]; simp [h]
  have e3 : (a ++ 84 :: (b ++ [90])).take 8 = a := List.take_left' h
  have e5 : a ++ 84 :: (b ++ [90]) = ((a ++ [84]) ++ b) ++ [90] := by simp
  have e6 : (a ++ 84 :: (b ++ [90]))[15]? = some 90 := by rw [e5, List.getElem?_append_right (by simp [h, h'])]; simp [h, h']
  have e4 : ((a ++ 84 :: (b ++ [90])).take 15).drop 9 = b := by
    rw [e5, List.take_left' (by simp [h, h']), List.drop_left' (by simp [h])]
  unfold form
  rw [e1, e2, e3, e4, e6]; rfl
/-- WHAT IS PRINTED IS PARSED AS IT WAS -/
theorem parse_text {k s : Int} (h : chk k s = 0) : pM (text k s) = (k, s, 0) := by
  have hw : why k s = 0 := by unfold chk at h; by_cases hw : why k s = 0; exact hw; rw [if_pos hw] at h; exact absurd h hw
  have hs : secOf k s = s := by unfold chk at h; rw [hw] at h; simp at h; exact h
  have hb : 1 ≤ k ∧ k ≤ 3 ∧ 0 ≤ s ∧ s ≤ 315537897599 := by
    unfold why at hw
    by_cases h1 : k < 1 ∨ 3 < k
    · rw [if_pos h1] at hw; omega
    · rw [if_neg h1] at hw
      by_cases h2 : s < 0 ∨ 315537897599 < s
      · rw [if_pos h2] at hw; omega
      · omega
  have h1 : 0 ≤ s / 86400 := by omega
  have h2 : s / 86400 ≤ 3652058 := by omega
  have hk : k = 1 ∨ k = 2 ∨ k = 3 := by omega
  rcases hk with rfl | rfl | rfl
  · rw [text1]; unfold pM; rw [form_D (dayT_len _)]
    simp only [day_bds h1 h2, six, two]
    rw [mk_day h1 h2 (by omega) (by omega) (by omega)]
    unfold secOf at hs; simp at hs
    congr 2; omega
  · rw [text2]; unfold pM; rw [form_L (dayT_len _) (timeT_len _)]
    simp only [day_bds h1 h2, time_bds (r := s % 86400) (by omega) (by omega), two]
    rw [mk_day h1 h2 (by omega) (by omega) (by omega)]
    congr 2; omega
  · rw [text3]; unfold pM; rw [form_U (dayT_len _) (timeT_len _)]
    simp only [day_bds h1 h2, time_bds (r := s % 86400) (by omega) (by omega), two]
    rw [mk_day h1 h2 (by omega) (by omega) (by omega)]
    congr 2; omega
theorem mk_ok {k y m d h i s a b : Int} (he : mk k y m d h i s = (a, b, 0)) : a = k ∧ 1 ≤ d ∧ d ≤ Civ.len y m ∧ h ≤ 23 ∧ i ≤ 59 ∧ s ≤ 59 ∧ b = (Civ.ahead y + Civ.til y m + d - 1) * 86400 + (h * 60 + i) * 60 + s := by
  unfold mk at he
  by_cases hc : Civ.dayE y m d ≠ 0 ∨ 23 < h ∨ 59 < i ∨ 59 < s
  · rw [if_pos hc] at he; simp at he
  · rw [if_neg hc] at he
    have hd : Civ.dayE y m d = 0 := by omega
    have h1 : 1 ≤ d ∧ d ≤ Civ.len y m := by
      unfold Civ.dayE at hd
      by_cases h' : d < 1 ∨ Civ.len y m < d
      · rw [if_pos h'] at hd; omega
      · omega
    rw [(Civ.day_of h1.1 h1.2).1] at he
    simp at he
    exact ⟨he.1.symm, h1.1, h1.2, by omega, by omega, by omega, he.2.symm⟩
theorem wid_of {w : Nat} {l : List UInt8} (h : l.all dig = true) (hl : l.length = w) : wid w (num 0 l) = l := by subst hl; exact wid_num l h
theorem fields_ok {a b c : Nat} {l : List UInt8} {ns : List Int} (hl : l.length = a + b + c) (h : fields [a, b, c] l = some ns) :
    ∃ x y z, ns = [x, y, z] ∧ 0 ≤ x ∧ 0 ≤ y ∧ 0 ≤ z ∧ l = wid a x ++ wid b y ++ wid c z := by
  rw [fields3 _ _ _ _ hl] at h
  by_cases hd : l.all dig = true
  · rw [if_pos hd] at h
    have hd1 : (l.take a).all dig = true := List.all_eq_true.2 fun x hx => List.all_eq_true.1 hd x (List.mem_of_mem_take hx)
    have hd2 : ((l.drop a).take b).all dig = true := List.all_eq_true.2 fun x hx => List.all_eq_true.1 hd x (List.mem_of_mem_drop (List.mem_of_mem_take hx))
    have hd3 : (l.drop (a + b)).all dig = true := List.all_eq_true.2 fun x hx => List.all_eq_true.1 hd x (List.mem_of_mem_drop hx)
    refine ⟨_, _, _, (Option.some.inj h).symm, (num_bd _ hd1).1, (num_bd _ hd2).1, (num_bd _ hd3).1, ?_⟩
    rw [wid_of hd1 (by simp; omega), wid_of hd2 (by simp; omega), wid_of hd3 (by simp; omega)]
    have e : (l.drop a).drop b = l.drop (a + b) := by rw [List.drop_drop]
    rw [← e, List.append_assoc, List.take_append_drop, List.take_append_drop]
  · rw [if_neg hd] at h; cases h
theorem form_inv {l a b : List UInt8} {k : Int} (h : form l = some (k, a, b)) : a.length = 8 ∧ b.length = 6 ∧ ((k = 1 ∧ l = a ∧ b = [48, 48, 48, 48, 48, 48]) ∨ (k = 2 ∧ l = a ++ 84 :: b) ∨ (k = 3 ∧ l = a ++ 84 :: (b ++ [90]))) := by
  unfold form at h
  by_cases h1 : l.length = 8
  · rw [if_pos h1] at h
    simp at h
    obtain ⟨rfl, rfl, rfl⟩ := h
    exact ⟨h1, rfl, .inl ⟨rfl, rfl, rfl⟩⟩
  · rw [if_neg h1] at h
    by_cases h2 : l.length = 15 ∧ l[8]? = some 84
    · rw [if_pos h2] at h
      simp at h
      obtain ⟨rfl, rfl, rfl⟩ := h
      refine ⟨by simp; omega, by simp; omega, .inr (.inl ⟨rfl, ?_⟩)⟩
      have h8 : 8 < l.length := by omega
      have hg : l[8] = 84 := by have := h2.2; rw [List.getElem?_eq_getElem h8] at this; exact Option.some.inj this
      conv => lhs; rw [← List.take_append_drop 8 l, List.drop_eq_getElem_cons h8, hg]
    · rw [if_neg h2] at h
      by_cases h3 : l.length = 16 ∧ l[8]? = some 84 ∧ l[15]? = some 90
      · rw [if_pos h3] at h
        simp at h
        obtain ⟨rfl, rfl, rfl⟩ := h
        refine ⟨by simp; omega, by simp; omega, .inr (.inr ⟨rfl, ?_⟩)⟩
        have h8 : 8 < (l.take 15).length := by simp; omega
        have h15 : 15 < l.length := by omega
        have hg : (l.take 15)[8] = 84 := by have := h3.2.1; rw [List.getElem?_eq_getElem (by omega)] at this; simp; exact Option.some.inj this
        have hz : l[15] = 90 := by have := h3.2.2; rw [List.getElem?_eq_getElem h15] at this; exact Option.some.inj this
        have e1 : l = l.take 15 ++ [90] := by
          conv => lhs; rw [← List.take_append_drop 15 l, List.drop_eq_getElem_cons h15, hz]
          simp; omega
        have e2 : l.take 15 = l.take 8 ++ 84 :: (l.take 15).drop 9 := by
          conv => lhs; rw [← List.take_append_drop 8 (l.take 15), List.drop_eq_getElem_cons h8, hg]
          rw [List.take_take]; simp
        conv => lhs; rw [e1, e2]
        simp
      · rw [if_neg h3] at h; cases h
/-- WHAT IS PARSED IS PRINTED AS IT WAS -/
theorem print_parse {l : List UInt8} {k s : Int} (h : pM l = (k, s, 0)) : chk k s = 0 ∧ text k s = l := by
  unfold pM at h
  cases hf : form l with
  | none => rw [hf] at h; simp at h
  | some t =>
    obtain ⟨k', a, b⟩ := t
    rw [hf] at h
    simp only at h
    obtain ⟨ha, hb, hl⟩ := form_inv hf
    cases hfa : fields [4, 2, 2] a with
    | none => rw [hfa] at h; simp [two] at h
    | some na =>
      cases hfb : fields [2, 2, 2] b with
      | none => rw [hfa, hfb] at h; obtain ⟨x, y, z, rfl, _⟩ := fields_ok ha hfa; simp [two] at h
      | some nb =>
        rw [hfa, hfb] at h
        obtain ⟨y, m, d, rfl, y0, m0, d0, rfl⟩ := fields_ok ha hfa
        obtain ⟨hh, i, ss, rfl, h0, i0, s0, eb⟩ := fields_ok hb hfb
        simp only [two] at h
        obtain ⟨rfl, d1, d2, hh1, i1, s1, es⟩ := mk_ok h
        have hlen := Civ.len_pos (y := y) (m := m) (by omega)
        have ho := Civ.date_of hlen.1 hlen.2.1 hlen.2.2.1 hlen.2.2.2 d1 d2
        obtain ⟨u1, u2, u3⟩ := Civ.date_unique hlen.1 hlen.2.1 hlen.2.2.1 hlen.2.2.2 d1 d2 rfl
        generalize Civ.ahead y + Civ.til y m + d - 1 = n at *
        have q1 : s / 86400 = n := by omega
        have q2 : s % 86400 = hh * 3600 + i * 60 + ss := by omega
        have q3 : s % 86400 / 3600 = hh := by omega
        have q4 : s % 86400 / 60 % 60 = i := by omega
        have q5 : s % 86400 % 60 = ss := by omega
        have hD : dayT (s / 86400) = wid 4 y ++ wid 2 m ++ wid 2 d := by unfold dayT; rw [q1, u1, u2, u3]
        have hT : timeT (s % 86400) = b := by unfold timeT; rw [q3, q4, q5, eb]
        have hw : k = 1 ∨ k = 2 ∨ k = 3 := by rcases hl with h | h | h <;> simp [h.1]
        have hy : why k s = 0 := by unfold why; rw [if_neg (by omega), if_neg (by omega)]
        rcases hl with ⟨rfl, rfl, rfl⟩ | ⟨rfl, rfl⟩ | ⟨rfl, rfl⟩
        · have hz : some [hh, i, ss] = some [0, 0, 0] := by rw [← hfb]; exact six
          simp at hz
          obtain ⟨rfl, rfl, rfl⟩ := hz
          refine ⟨?_, by rw [text1, hD]⟩
          unfold chk; rw [hy]; unfold secOf; simp; omega
        · refine ⟨?_, by rw [text2, hD, hT]⟩
          unfold chk; rw [hy]; unfold secOf; simp
        · refine ⟨?_, by rw [text3, hD, hT]⟩
          unfold chk; rw [hy]; unfold secOf; simp
/-! the order of texts -/
theorem less_app : ∀ {x y : List UInt8} (_ : x.length = y.length) (u v : List UInt8), Op.bytesLess (x ++ u) (y ++ v) = (Op.bytesLess x y || (decide (x = y) && Op.bytesLess u v))
  | [], [], _, u, v => by simp [Op.bytesLess]
  | a :: x, b :: y, h, u, v => by
    have ih := less_app (x := x) (y := y) (by simpa using h) u v
    simp only [List.cons_append, Op.bytesLess, ih]
    by_cases hab : a = b
    · subst hab; simp
    · have he : (a == b) = false := by simp [hab]
      simp [hab, he]
theorem less_one {m n : Int} (hm : 0 ≤ m) (m9 : m ≤ 9) (hn : 0 ≤ n) (n9 : n ≤ 9) : Op.bytesLess [UInt8.ofNat (48 + m).toNat] [UInt8.ofNat (48 + n).toNat] = decide (m < n) := by
  simp only [Op.bytesLess, Bool.and_false, Bool.or_false]
  congr 1
  rw [UInt8.lt_iff_toNat_lt]
  simp
  omega
theorem wid_inj {w : Nat} {m n : Int} (m0 : 0 ≤ m) (m1 : m < 10 ^ w) (n0 : 0 ≤ n) (n1 : n < 10 ^ w) (h : wid w m = wid w n) : m = n := by
  have h1 := num_wid w m m0 m1
  rw [h, num_wid w n n0 n1] at h1
  exact h1.symm
theorem less_wid : ∀ (w : Nat) {m n : Int}, 0 ≤ m → m < 10 ^ w → 0 ≤ n → n < 10 ^ w → Op.bytesLess (wid w m) (wid w n) = decide (m < n)
  | 0, m, n, m0, m1, n0, n1 => by
    have : m = n := by simp at m1 n1; omega
    subst this; simp [wid, Op.bytesLess]
  | w + 1, m, n, m0, m1, n0, n1 => by
    have hp : (10 : Int) ^ (w + 1) = 10 ^ w * 10 := Int.pow_succ ..
    have ih := less_wid w (m := m / 10) (n := n / 10) (by omega) (by omega) (by omega) (by omega)
    simp only [wid]
    rw [less_app (by simp [wid_len]), ih, less_one (by omega) (by omega) (by omega) (by omega)]
    by_cases he : m / 10 = n / 10
    · rw [he]; simp; omega
    · have : wid w (m / 10) ≠ wid w (n / 10) := fun h => he (wid_inj (by omega) (by omega) (by omega) (by omega) h)
      simp [this]; omega
/-- a number's digits ahead of a text: the number counts first -/
theorem less_wid_app {w : Nat} {m n : Int} (m0 : 0 ≤ m) (m1 : m < 10 ^ w) (n0 : 0 ≤ n) (n1 : n < 10 ^ w) (u v : List UInt8) :
    Op.bytesLess (wid w m ++ u) (wid w n ++ v) = (decide (m < n) || (decide (m = n) && Op.bytesLess u v)) := by
  rw [less_app (by simp [wid_len]), less_wid w m0 m1 n0 n1]
  by_cases h : m = n
  · subst h; simp
  · have : wid w m ≠ wid w n := fun e => h (wid_inj m0 m1 n0 n1 e)
    simp [this, h]
theorem less_self : ∀ x : List UInt8, Op.bytesLess x x = false
  | [] => rfl
  | a :: x => by simp [Op.bytesLess, less_self x]
theorem dayT_less {n n' : Int} (h1 : 0 ≤ n) (h2 : n ≤ 3652058) (h1' : 0 ≤ n') (h2' : n' ≤ 3652058) (u v : List UInt8) :
    Op.bytesLess (dayT n ++ u) (dayT n' ++ v) = (decide (n < n') || (decide (n = n') && Op.bytesLess u v)) := by
  obtain ⟨a1, a2, b1, b2, c1, c2, e⟩ := Civ.date_spec h1 h2
  obtain ⟨a1', a2', b1', b2', c1', c2', e'⟩ := Civ.date_spec h1' h2'
  have l1 := (Civ.len_bd (Civ.dateY n) (Civ.dateM n)).2
  have l2 := (Civ.len_bd (Civ.dateY n') (Civ.dateM n')).2
  have o1 := Civ.date_of a1 a2 b1 b2 c1 c2
  have o2 := Civ.date_of a1' a2' b1' b2' c1' c2'
  unfold dayT
  simp only [List.append_assoc]
  rw [less_wid_app (by omega) (by omega) (by omega) (by omega), less_wid_app (by omega) (by omega) (by omega) (by omega), less_wid_app (by omega) (by omega) (by omega) (by omega)]
  by_cases hy : Civ.dateY n = Civ.dateY n'
  · by_cases hm : Civ.dateM n = Civ.dateM n'
    · rw [hy, hm] at e
      have hnn : n - n' = Civ.dateD n - Civ.dateD n' := by omega
      rw [hy, hm]
      by_cases hd : Civ.dateD n = Civ.dateD n'
      · have : n = n' := by omega
        subst this; simp
      · have h3 : n ≠ n' := by omega
        by_cases h4 : Civ.dateD n < Civ.dateD n'
        · have : n < n' := by omega
          simp [h4, this]
        · have : ¬ n < n' := by omega
          simp [h4, this, hd, h3]
    · have hy' := (Civ.isYear_iff _).2 ⟨a1, a2⟩
      have hy2 := (Civ.isYear_iff _).2 ⟨a1', a2'⟩
      have t1 := Civ.til_succ hy' b1 b2
      have t2 := Civ.til_succ hy2 b1' b2'
      rw [hy] at e t1 hy' ⊢
      by_cases h4 : Civ.dateM n < Civ.dateM n'
      · have := Civ.til_mono (y := Civ.dateY n') (m := Civ.dateM n + 1) (k := Civ.dateM n') hy' (by omega) (by omega) (by omega)
        rw [hy] at c2
        have : n < n' := by omega
        simp [h4, this]
      · have := Civ.til_mono (y := Civ.dateY n') (m := Civ.dateM n' + 1) (k := Civ.dateM n) hy' (by omega) (by omega) (by omega)
        have h5 : n' < n := by omega
        have h6 : ¬ n < n' := by omega
        have h7 : n ≠ n' := by omega
        simp [h4, hm, h6, h7]
  · by_cases h4 : Civ.dateY n < Civ.dateY n'
    · have := Civ.ahead_mono (y := Civ.dateY n + 1) (z := Civ.dateY n') (by omega)
      have : n < n' := by omega
      simp [h4, this]
    · have := Civ.ahead_mono (y := Civ.dateY n' + 1) (z := Civ.dateY n) (by omega)
      have h6 : ¬ n < n' := by omega
      have h7 : n ≠ n' := by omega
      simp [h4, hy, h6, h7]
theorem timeT_less {r r' : Int} (h1 : 0 ≤ r) (h2 : r < 86400) (h1' : 0 ≤ r') (h2' : r' < 86400) (u : List UInt8) :
    Op.bytesLess (timeT r ++ u) (timeT r' ++ u) = decide (r < r') := by
  unfold timeT
  simp only [List.append_assoc]
  rw [less_wid_app (by omega) (by omega) (by omega) (by omega), less_wid_app (by omega) (by omega) (by omega) (by omega), less_wid_app (by omega) (by omega) (by omega) (by omega), less_self]
  rw [Bool.eq_iff_iff]
  simp only [Bool.or_eq_true, Bool.and_eq_true, decide_eq_true_eq, Bool.false_eq_true, and_false, or_false]
  omega
/-- TEXTS OF ONE KIND STAND IN THE ORDER OF THEIR SECONDS -/
theorem text_less {k s t : Int} (hs : chk k s = 0) (ht : chk k t = 0) (hk : 1 ≤ k) (hk3 : k ≤ 3) (s0 : 0 ≤ s) (s1 : s ≤ 315537897599) (t0 : 0 ≤ t) (t1 : t ≤ 315537897599) : Op.bytesLess (text k s) (text k t) = decide (s < t) := by
  have hw : ∀ x, 0 ≤ x → x ≤ 315537897599 → why k x = 0 := fun x h1 h2 => by unfold why; rw [if_neg (by omega), if_neg (by omega)]
  have hkk : k = 1 ∨ k = 2 ∨ k = 3 := by omega
  rcases hkk with rfl | rfl | rfl
  · have e1 : s % 86400 = 0 := by unfold chk at hs; rw [hw s s0 s1] at hs; unfold secOf at hs; simp at hs; omega
    have e2 : t % 86400 = 0 := by unfold chk at ht; rw [hw t t0 t1] at ht; unfold secOf at ht; simp at ht; omega
    have := dayT_less (n := s / 86400) (n' := t / 86400) (by omega) (by omega) (by omega) (by omega) [] []
    simp only [List.append_nil] at this
    rw [text1, text1, this, Bool.eq_iff_iff]
    simp [Op.bytesLess]; omega
  · rw [text2, text2, dayT_less (by omega) (by omega) (by omega) (by omega)]
    have := timeT_less (r := s % 86400) (r' := t % 86400) (by omega) (by omega) (by omega) (by omega) []
    simp only [List.append_nil] at this
    simp only [Op.bytesLess, this]
    rw [Bool.eq_iff_iff]
    simp; omega
  · rw [text3, text3, dayT_less (by omega) (by omega) (by omega) (by omega)]
    have := timeT_less (r := s % 86400) (r' := t % 86400) (by omega) (by omega) (by omega) (by omega) [90]
    simp only [Op.bytesLess, this]
    rw [Bool.eq_iff_iff]
    simp; omega
end Go.Proofs.YtbjiiejgepgdeaaDoor.Mo

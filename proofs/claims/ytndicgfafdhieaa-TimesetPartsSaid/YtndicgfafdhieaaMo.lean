/- What moment's functions compute, in plain lists of bytes and integers. -/
import Derived.Test.YtndicgfafdhieaaCiv
namespace Go.Proofs.Ytndicgfafdhieaa.Mo
/-- why there is no value of kind k at second s: 0 where there is -/
def why (k s : Int) : Int := if k < 1 ∨ 3 < k then 11 else if s < 0 ∨ 315537897599 < s then 8 else 0
/-- the second of the value -/
def secOf (k s : Int) : Int := if k = 1 then s - s % 86400 else s
/-- what Check says -/
def chk (k s : Int) : Int := if why k s ≠ 0 then why k s else if secOf k s = s then 0 else 2
def dig (c : UInt8) : Bool := decide (48 ≤ c.toNat) && decide (c.toNat ≤ 57)
def dv (c : UInt8) : Int := (c.toNat : Int) - 48
def num (n : Int) (l : List UInt8) : Int := l.foldl (fun n c => n * 10 + dv c) n
/-- the numbers of a text of digits, by their widths; none where there is another byte, or too few -/
def fields : List Nat → List UInt8 → Option (List Int)
  | [], l => if l = [] then some [] else none
  | w :: ws, l => if (l.take w).length = w ∧ (l.take w).all dig = true then (fields ws (l.drop w)).map (num 0 (l.take w) :: ·) else none
def form (l : List UInt8) : Option (Int × List UInt8 × List UInt8) :=
  if l.length = 8 then some (1, l, [48, 48, 48, 48, 48, 48]) else if l.length = 15 ∧ l[8]? = some 84 then some (2, l.take 8, l.drop 9)
  else if l.length = 16 ∧ l[8]? = some 84 ∧ l[15]? = some 90 then some (3, l.take 8, (l.take 15).drop 9) else none
/-- the value of six numbers -/
def mk (k y m d h i s : Int) : Int × Int × Int :=
  if Civ.dayE y m d ≠ 0 ∨ 23 < h ∨ 59 < i ∨ 59 < s then (0, 0, 8) else (k, Civ.day y m d * 86400 + (h * 60 + i) * 60 + s, 0)
def two (k : Int) : Option (List Int) → Option (List Int) → Int × Int × Int
  | some [y, m, d], some [h, i, s] => mk k y m d h i s
  | _, _ => (0, 0, 4)
def pM (l : List UInt8) : Int × Int × Int :=
  match form l with
  | none => (0, 0, 4)
  | some (k, a, b) => two k (fields [4, 2, 2] a) (fields [2, 2, 2] b)
/-- a number in so many digits -/
def wid : Nat → Int → List UInt8
  | 0, _ => []
  | w + 1, n => wid w (n / 10) ++ [UInt8.ofNat (48 + n % 10).toNat]
def text (k s : Int) : List UInt8 :=
  wid 4 (Civ.dateY (s / 86400)) ++ wid 2 (Civ.dateM (s / 86400)) ++ wid 2 (Civ.dateD (s / 86400)) ++
    ((if k = 1 then [] else [84] ++ wid 2 (s % 86400 / 3600) ++ wid 2 (s % 86400 / 60 % 60) ++ wid 2 (s % 86400 % 60)) ++ (if k = 3 then [90] else []))
def prM (k s : Int) : List UInt8 := if chk k s = 0 then text k s else []

theorem wid_len : ∀ (w : Nat) (n : Int), (wid w n).length = w
  | 0, _ => rfl
  | w + 1, n => by simp [wid, wid_len w]
theorem dig_of {n : Int} (h0 : 0 ≤ n) (h9 : n ≤ 9) : dig (UInt8.ofNat (48 + n).toNat) = true ∧ dv (UInt8.ofNat (48 + n).toNat) = n := by
  have h : (48 + n).toNat < 256 := by omega
  have e : (UInt8.ofNat (48 + n).toNat).toNat = (48 + n).toNat := by simp; omega
  unfold dig dv
  rw [e]
  constructor
  · simp; omega
  · omega
theorem wid_dig : ∀ (w : Nat) (n : Int), (wid w n).all dig = true
  | 0, _ => rfl
  | w + 1, n => by
    simp only [wid, List.all_append, wid_dig w, Bool.true_and, List.all_cons, List.all_nil, Bool.and_true]
    exact (dig_of (by omega) (by omega)).1
theorem num_wid : ∀ (w : Nat) (n : Int), 0 ≤ n → n < 10 ^ w → num 0 (wid w n) = n
  | 0, n, h0, h => by simp [wid, num] at *; omega
  | w + 1, n, h0, h => by
    have hp : (10 : Int) ^ (w + 1) = 10 ^ w * 10 := Int.pow_succ ..
    have ih := num_wid w (n / 10) (by omega) (by omega)
    unfold num at ih ⊢
    simp only [wid, List.foldl_append, ih, List.foldl_cons, List.foldl_nil]
    rw [(dig_of (by omega) (by omega)).2]
    omega
theorem dig_bd {c : UInt8} (h : dig c = true) : 0 ≤ dv c ∧ dv c ≤ 9 := by
  unfold dig at h; unfold dv
  simp at h; omega
theorem snoc_ind {P : List UInt8 → Prop} (h0 : P []) (h1 : ∀ l c, P l → P (l ++ [c])) (l : List UInt8) : P l := by
  have : ∀ l : List UInt8, P l.reverse := by
    intro l
    induction l with
    | nil => exact h0
    | cons c l ih => rw [List.reverse_cons]; exact h1 _ _ ih
  have := this l.reverse
  rwa [List.reverse_reverse] at this
theorem num_snoc (n : Int) (l : List UInt8) (c : UInt8) : num n (l ++ [c]) = num n l * 10 + dv c := by simp [num]
theorem num_bd (l : List UInt8) : l.all dig = true → 0 ≤ num 0 l ∧ num 0 l < 10 ^ l.length := by
  refine snoc_ind (P := fun l => l.all dig = true → 0 ≤ num 0 l ∧ num 0 l < 10 ^ l.length) (fun _ => by simp [num]) (fun l c ih h => ?_) l
  rw [List.all_append, Bool.and_eq_true] at h
  have := ih h.1
  have hc := dig_bd (c := c) (by simpa using h.2)
  have hp : (10 : Int) ^ (l.length + 1) = 10 ^ l.length * 10 := Int.pow_succ ..
  rw [num_snoc, List.length_append, List.length_singleton, hp]
  omega
theorem wid_num (l : List UInt8) : l.all dig = true → wid l.length (num 0 l) = l := by
  refine snoc_ind (P := fun l => l.all dig = true → wid l.length (num 0 l) = l) (fun _ => by simp [wid]) (fun l c ih h => ?_) l
  rw [List.all_append, Bool.and_eq_true] at h
  have hc := dig_bd (c := c) (by simpa using h.2)
  rw [num_snoc, List.length_append, List.length_singleton, wid]
  have e1 : (num 0 l * 10 + dv c) / 10 = num 0 l := by omega
  have e2 : (num 0 l * 10 + dv c) % 10 = dv c := by omega
  rw [e1, e2, ih h.1]
  congr 2
  unfold dv
  have : (48 + ((c.toNat : Int) - 48)).toNat = c.toNat := by omega
  rw [this]; simp
theorem fields3 (a b c : Nat) (l : List UInt8) (h : l.length = a + b + c) : fields [a, b, c] l =
    if l.all dig = true then some [num 0 (l.take a), num 0 ((l.drop a).take b), num 0 (l.drop (a + b))] else none := by
  have ha : (l.take a).length = a := by simp; omega
  have hb : ((l.drop a).take b).length = b := by simp; omega
  have e : (l.drop a).drop b = l.drop (a + b) := by rw [List.drop_drop]
  have hc : ((l.drop (a + b)).take c) = l.drop (a + b) := by rw [List.take_of_length_le]; simp; omega
  have hc2 : (l.drop (a + b)).length = c := by simp; omega
  have hn : (l.drop (a + b)).drop c = [] := by rw [List.drop_eq_nil_iff]; simp; omega
  have hall : l.all dig = ((l.take a).all dig && ((l.drop a).take b).all dig && (l.drop (a + b)).all dig) := by
    conv => lhs; rw [← List.take_append_drop a l, ← List.take_append_drop b (l.drop a), e]
    simp [Bool.and_assoc]
  simp only [fields, ha, hb, e, hc, hc2, hn, hall, true_and]
  cases (l.take a).all dig <;> cases ((l.drop a).take b).all dig <;> cases (l.drop (a + b)).all dig <;> simp
end Go.Proofs.Ytndicgfafdhieaa.Mo

/- The loop of moment's fields, in plain lists. -/
import Derived.Test.YtndicgfafdhieaaMo
namespace Go.Proofs.Ytndicgfafdhieaa.Mo
/-- k digits more behind the number n -/
def go : Nat → Int → List UInt8 → Option (Int × List UInt8)
  | 0, n, l => some (n, l)
  | _ + 1, _, [] => none
  | k + 1, n, c :: l => if dig c = true then go k (n * 10 + dv c) l else none
theorem go_eq : ∀ (k : Nat) (n : Int) (l : List UInt8), go k n l = if (l.take k).length = k ∧ (l.take k).all dig = true then some (num n (l.take k), l.drop k) else none
  | 0, n, l => by simp [go, num]
  | k + 1, n, [] => by simp [go]
  | k + 1, n, c :: l => by
    rw [go, go_eq k]
    cases hd : dig c
    · simp [hd]
    · simp only [List.take_succ_cons, List.length_cons, List.all_cons, hd, Bool.true_and, List.drop_succ_cons, if_true, Nat.add_right_cancel_iff]
      rfl
theorem fields_go (w : Nat) (ws : List Nat) (l : List UInt8) : fields (w :: ws) l = (go w 0 l).bind fun p => (fields ws p.2).map (p.1 :: ·) := by
  rw [fields, go_eq]
  split <;> rfl
/-- what is still to be read: k digits behind n, then the widths ws; ns is read already -/
def rest (ns : List Int) (k : Nat) (n : Int) (ws : List Nat) (l : List UInt8) : Option (List Int) :=
  (go k n l).bind fun p => (fields ws p.2).map fun ms => ns ++ p.1 :: ms
theorem rest_start (ns : List Int) (w : Nat) (ws : List Nat) (l : List UInt8) : (fields (w :: ws) l).map (ns ++ ·) = rest ns w 0 ws l := by
  rw [fields_go]; unfold rest
  cases go w 0 l with
  | none => rfl
  | some p => simp [Option.map_map, Function.comp_def]
theorem rest_zero (ns : List Int) (n : Int) (ws : List Nat) (l : List UInt8) : rest ns 0 n ws l = (fields ws l).map ((ns ++ [n]) ++ ·) := by
  simp [rest, go]
theorem rest_nil (ns : List Int) (k : Nat) (n : Int) (ws : List Nat) : rest ns (k + 1) n ws [] = none := rfl
theorem rest_bad (ns : List Int) (k : Nat) (n : Int) (ws : List Nat) {c : UInt8} (l : List UInt8) (h : dig c = false) : rest ns (k + 1) n ws (c :: l) = none := by
  simp [rest, go, h]
theorem rest_dig (ns : List Int) (k : Nat) (n : Int) (ws : List Nat) {c : UInt8} (l : List UInt8) (h : dig c = true) : rest ns (k + 1) n ws (c :: l) = rest ns k (n * 10 + dv c) ws l := by
  simp [rest, go, h]
end Go.Proofs.Ytndicgfafdhieaa.Mo

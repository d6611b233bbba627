/- What every law's closing wants, over any program: the arguments read behind the call as they read before, because nothing that was there has turned. -/
import Derived.ProofKit
import Derived.OpenShut
import Derived.Below
import Derived.Deep.DeepHandedRow
import Derived.SevenTiedAt
import Derived.Deep.QuietTactic
namespace Go.Proofs.Ytncneoggnoiknaa.Base
open Go.ChangeShapes Go.WideShapes Go.ChangeAt Go.RowKit
section
variable {H : Type} {enc : TypeId × Value → H} {P : Program}
theorem all_stays (hl : laidOutB P = true) {W W' : World} (hb : Below W.heap.size W W') {sp : Nat → Bool} :
    ∀ {ts : List TypeId} {vs : List Value} {ds : List (DataW H)} {ps : List MemPlace}, ts.all (fun t => P.readableRec t && decide (t < P.types.size)) = true →
      DataW.TrodAll enc P W 0 (fun _ => true) true ts vs ds ps → (∀ p ∈ ps, p.block < W.heap.size) → (∀ p ∈ ps, sp p.block = true) → DataW.TrodAll enc P W' 0 sp true ts vs ds ps
  | [], _, _, _, _, h, _, _ => by
    obtain ⟨rfl, rfl, rfl⟩ := trodAll_nil h
    exact trodAll_mk0
  | t :: ts, _, _, _, hr, h, hlt, hsp => by
    obtain ⟨v, vs', d, ds', p, q, rfl, rfl, rfl, h1, h2⟩ := trodAll_cons h
    simp only [List.all_cons, Bool.and_eq_true, decide_eq_true_eq] at hr
    refine trodAll_cons_mk (WideElems.Trod_stays hl hr.1.1 hr.1.2 h1 (fun x hx => hb.same (hlt x (List.mem_append_left _ hx))) (fun x hx => hsp x (List.mem_append_left _ hx))) ?_
    exact all_stays hl hb hr.2 h2 (fun x hx => hlt x (List.mem_append_right _ hx)) (fun x hx => hsp x (List.mem_append_right _ hx))
/-- A LAW's LAST STEP: it returned true, and nothing that was there has turned. -/
theorem law_post {f : Func} {s : ChangeSpec} {apart fresh handsOn again : Bool} {W W' : World} {args : Array Value} {ds gs : List (DataW H)} {before : List MemPlace} {tb : TypeId}
    (hW : DataW.Whole enc P f.params.toList s.vars apart W args.toList ds gs before) (hv : s.vars = []) (hres : f.resultTypes = #[tb]) (hbool : P.underlying tb = some .bool)
    (hl : laidOutB P = true) (hr : f.params.toList.all (fun t => P.readableRec t && decide (t < P.types.size)) = true)
    (hfn : s.fn H ds = { results := [.lit (.bool true)], args := ds }) (hb : Below W.heap.size W W') :
    s.post enc P f apart fresh handsOn again W args (.bool true) W' := by
  have hlt : ∀ p ∈ before, p.block < W.heap.size := fun p hp => hW.lt p hp
  have hW0 := hW
  obtain ⟨p, q, hA, hV, rfl, hfz, hnd⟩ := hW
  rw [hv] at hV
  obtain ⟨rfl, rfl⟩ := trodVars_none hV
  have hltp : ∀ x ∈ p, x.block < W.heap.size := fun x hx => hlt x (List.mem_append_left _ hx)
  have hg : (s.fn H (ds ++ [])).results = [.lit (.bool true)] ∧ (s.fn H (ds ++ [])).args = ds ∧ (s.fn H (ds ++ [])).vars = [] := by rw [List.append_nil, hfn]; exact ⟨rfl, rfl, rfl⟩
  have hL : ∀ (b : Nat) (sp : Nat → Bool) (hd : Bool), DataW.TrodAll enc P W' b sp hd f.resultTypes.toList ((Value.bool true).resultList f.resultTypes.size) [.lit (.bool true)] [] := by
    intro b sp hd
    rw [hres]
    exact trodAll_mk1 (shut_bool hbool true)
  have hR : ∀ (b : Nat) (sp : Nat → Bool) (hd : Bool), DataW.TrodAll enc P W' b sp hd f.resultTypes.toList ((Value.bool true).resultList f.resultTypes.size) (s.fn H (ds ++ [])).results [] := by
    intro b sp hd
    rw [hg.1]
    exact hL b sp hd
  refine ⟨ds, [], p ++ [], [], p, [], hW0, hR _ _ _, ?_, ?_, World.keptBut_mono (fun x hx => ⟨hx, ?_⟩) (hb.frame (· ∈ p ++ [])), fun _ => ⟨?_, [.lit (.bool true)] ++ ds, [], p ++ [], ⟨[] ++ p, [], trodAll_append (all_stays hl hb hr hA hltp (fun _ _ => rfl)) (hL _ _ _), ?_, ?_, ?_, ?_⟩, ?_⟩⟩
  · rw [hg.2.1]
    exact all_stays hl hb hr hA hltp (fun x hx => by simpa using hltp x hx)
  · rw [hv, hg.2.2]; rfl
  · exact Or.inr (Or.inl (by simpa using hx))
  · exact ok_one hres rfl (okWide_bool_mk hbool _)
  · rw [hv]; rfl
  · simp
  · intro b off hp
    rw [hb.frozen (hlt _ hp)]
    exact hfz b off hp
  · intro ha
    simpa using hnd ha
  · intro x hx _
    exact hx
end
def numOf : Value → Int
  | .int _ z => z
  | _ => 0
/-- An array of integers, by value. -/
theorem open_arr {H : Type} {enc : TypeId × Value → H} {P : Program} {w : World} {base : Nat} {spare : Nat → Bool} {held : Bool} {r : Reach} {b0 n : Nat} {t e : TypeId} {k : IntKind} {v : Value} {d : DataW H} {p : List MemPlace}
    (ht : P.underlying t = some (.array n e)) (he : P.underlying e = some (.int k)) (hC : P.cellsOf t = n) (hc : P.cellsOf e = 1) (hv : Value.okWide P w r b0 t v) (h : DataW.Trod enc P w base spare held t v d p) :
    ∃ zs : List Int, zs.length = n ∧ v = .agg (zs.map (Value.int k)).toArray ∧ ∀ z ∈ zs, (Lit.int k z).wf = true := by
  unfold Value.okWide at hv
  rw [ht] at hv
  obtain ⟨cs, rfl, hsz, _⟩ := hv
  obtain ⟨fuel, hf⟩ := h
  obtain ⟨xs, m, _, _, _, hx2, hx3⟩ := DataW.trod_array ht hf
  rw [hC] at hsz
  have hl : cs.toList.length = n := by simpa using hsz
  have key : ∀ i (hi : i < cs.toList.length), ∃ z, cs.toList[i] = .int k z ∧ (Lit.int k z).wf = true := by
    intro i hi
    have h3 := hx3 i (by omega)
    rw [hc, List.getElem?_eq_getElem (by omega)] at h3
    obtain ⟨z, hz, _, hw⟩ := DataW.trod_int he h3
    refine ⟨z, ?_, hw⟩
    have hd : ((cs.toList.drop (i * 1)).take 1)[0]? = some (Value.int k z) := by
      simp only [Value.cells] at hz
      rw [hz]; rfl
    rw [List.getElem?_take, if_pos (by omega), List.getElem?_drop] at hd
    simp only [Nat.mul_one, Nat.add_zero] at hd
    rw [List.getElem?_eq_getElem hi] at hd
    exact Option.some.inj hd
  refine ⟨cs.toList.map numOf, by simpa using hsz, ?_, ?_⟩
  · have he2 : (cs.toList.map numOf).map (Value.int k) = cs.toList := by
      rw [List.map_map]
      apply List.ext_getElem (by simp)
      intro i h1 h2
      obtain ⟨z, hz, _⟩ := key i h2
      simp only [List.getElem_map, Function.comp, hz, numOf]
    rw [he2]
  · intro z hz
    obtain ⟨c, hc1, rfl⟩ := List.mem_map.1 hz
    obtain ⟨i, hi, rfl⟩ := List.getElem_of_mem hc1
    obtain ⟨z, hz, hw⟩ := key i hi
    rw [hz]; exact hw
/-- A callee that leaves the world alone, met inside a region that draws its order. -/
theorem qsame {P : Program} {f : FuncId} {args : Array Value} {w : World} {n : Nat} {v : Value}
    (h : Calls P f args (w.drewN n) fun e w' => e = .returned v ∧ w.drewN n = w') : Calls P f args (w.drewN n) fun e w'' => e = .returned v ∧ ∃ m, w'' = w.drewN m :=
  h.mono fun _ _ ⟨he, hm⟩ => ⟨he, n, hm.symm⟩
theorem below_drewN {B : Nat} {a w : World} (h : Below B a w) (n : Nat) : Below B a (w.drewN n) := ⟨h.os, h.tape, h.output, h.size, h.block⟩
end Go.Proofs.Ytncneoggnoiknaa.Base

/- The parts of an index around an entry. -/
import Derived.Test.YtncneoggnoiknaaIy
namespace Go.Proofs.Ytncneoggnoiknaa.Du
open Go.RowKit Sp Ut Me
theorem ess_mid (pre post : List Sg) (s : Sg) : ess (pre ++ s :: post) = ess pre ++ s.es :: ess post := by unfold ess; rw [List.map_append, List.map_cons]
theorem parts {SS : List Sg} (hO : Ok (ess SS)) (hne : SS ≠ []) (e : E) : ∃ pre s post, SS = pre ++ s :: post ∧ place (ess SS) e = pre.length ∧ (∀ l ∈ ess pre, ∀ x ∈ l, less x e = true) ∧ ∀ l ∈ ess post, ∀ x ∈ l, less e x = true := by
  have hne' : ess SS ≠ [] := by unfold ess; simpa using hne
  obtain ⟨p1, L, p2, h1, h2, h3, h4⟩ := place_spec hO hne' e
  have h1' : SS.map (fun s => s.es) = p1 ++ L :: p2 := h1
  obtain ⟨pre, rest, rfl, rfl, hr⟩ := List.map_eq_append_iff.1 h1'
  obtain ⟨s, post, rfl, rfl, rfl⟩ := List.map_eq_cons_iff.1 hr
  exact ⟨pre, s, post, rfl, by rw [← h2, List.length_map], h3, h4⟩
section
variable {pre post : List Sg} {s s' r : Sg} {e : E} (hO : Ok (ess (pre ++ s :: post))) (h1 : ∀ l ∈ ess pre, ∀ x ∈ l, less x e = true) (h2 : ∀ l ∈ ess post, ∀ x ∈ l, less e x = true)
include h1 h2
theorem has_part : hasE (allE (pre ++ s :: post)) e = hasE s.es e := by
  rw [Bool.eq_iff_iff, has_iff, has_iff]
  unfold allE
  rw [ess_mid]
  exact mem_place h1 h2
include hO
theorem put_part (he : hasE s.es e = false) (hs : s'.es = insE s.es e) : Ok (ess (pre ++ s' :: post)) ∧ allE (pre ++ s' :: post) = insE (allE (pre ++ s :: post)) e := by
  unfold allE
  rw [ess_mid] at hO
  rw [ess_mid, ess_mid, hs]
  exact ⟨ok_put hO h1 h2 (fun hm => by rw [has_iff.2 hm] at he; cases he), (ins_place h1 h2).symm⟩
theorem era_part (he : hasE s.es e = true) (hs : s'.es = eraE s.es e) : allE (pre ++ s' :: post) = (allE (pre ++ s :: post)).filter (fun x => decide (x ≠ e)) ∧ (s'.es ≠ [] → Ok (ess (pre ++ s' :: post))) ∧
    (s'.es = [] → Ok (ess (pre ++ post)) ∧ allE (pre ++ post) = allE (pre ++ s' :: post)) := by
  unfold allE
  rw [ess_mid] at hO
  rw [ess_mid, ess_mid, hs]
  have hm := has_iff.1 he
  obtain ⟨k1, k2⟩ := ok_era hO h1 h2 hm
  have hsor : Sor s.es := ok_sor hO (List.mem_append_right _ List.mem_cons_self)
  have hpp : ess (pre ++ post) = ess pre ++ ess post := by unfold ess; rw [List.map_append]
  refine ⟨(filter_place h1 h2 hsor hm).symm, k1, fun hn => ⟨by rw [hpp]; exact k2 hn, by rw [hpp, hn, flat_nil]⟩⟩
end
theorem split_part {pre post : List Sg} {s l r : Sg} {k : Nat} (hO : Ok (ess (pre ++ s :: post))) (h0 : 0 < k) (hk : k < s.es.length) (hl : l.es = s.es.take k) (hr : r.es = s.es.drop k) :
    Ok (ess (pre ++ l :: r :: post)) ∧ allE (pre ++ l :: r :: post) = allE (pre ++ s :: post) := by
  unfold allE
  rw [ess_mid] at hO
  have : ess (pre ++ l :: r :: post) = ess pre ++ s.es.take k :: s.es.drop k :: ess post := by unfold ess; simp [hl, hr]
  rw [this, ess_mid]
  exact ⟨ok_split hO h0 hk, split_flat _ _ _ _⟩
end Go.Proofs.Ytncneoggnoiknaa.Du

/- Plain facts about what was examined: the days of a key, and the facts that touch it. -/
import Derived.Test.YtbjhehmglahmpaaDepA
namespace Go.Proofs.Ytbjhehmglahmpaa
def spanB (key : ByteArray) (x : Rd) : Bool := (x.1.toList == key.toList) && decide (x.2.1 < x.2.2)
def spansOf (key : ByteArray) (l : List Rd) : List Sp := (l.filter (spanB key)).map (·.2)
theorem spansOf_snoc (key : ByteArray) (l : List Rd) (x : Rd) : spansOf key (l ++ [x]) = if spanB key x = true then spansOf key l ++ [x.2] else spansOf key l := by
  unfold spansOf
  rw [List.filter_append, List.map_append]
  by_cases h : spanB key x = true
  · rw [if_pos h, List.filter_cons_of_pos h]; rfl
  · rw [if_neg h, List.filter_cons_of_neg h]; simp
theorem spansOf_len (key : ByteArray) (l : List Rd) : (spansOf key l).length ≤ l.length := by
  unfold spansOf; rw [List.length_map]; exact List.length_filter_le _ _
theorem hit_day (key : ByteArray) (day : Int) (x : Rd) : hitB key day (day + 1) x = (spanB key x && inS day x.2) := by
  obtain ⟨s, a, b⟩ := x
  unfold hitB spanB inS
  dsimp only
  rw [Bool.and_assoc]
  congr 1
  rw [Bool.eq_iff_iff]
  simp only [Bool.and_eq_true, decide_eq_true_eq]
  omega
theorem days_law (fs : List Rd) (key : ByteArray) (day : Int) (he : makeE (spansOf key fs) = 0) :
    fs.any (hitB key day (day + 1)) = (validB (-1) (makeV (spansOf key fs)) && memB day (makeV (spansOf key fs))) := by
  have hr : (spansOf key fs).all rightB = true := by
    cases h : (spansOf key fs).all rightB with
    | true => rfl
    | false => unfold makeE at he; rw [h] at he; simp at he
  obtain ⟨h1, h2⟩ := makeV_spec hr
  rw [(validB_iff _ _).2 h1, Bool.true_and, h2]
  clear he hr h1 h2
  induction fs with
  | nil => rfl
  | cons x l ih =>
    rw [List.any_cons, ih, hit_day]
    unfold spansOf
    by_cases h : spanB key x = true
    · rw [List.filter_cons_of_pos h, h, List.map_cons, memB_cons, Bool.true_and]
    · rw [List.filter_cons_of_neg h]
      have : spanB key x = false := by simpa using h
      rw [this, Bool.false_and, Bool.false_or]
theorem days_none (fs : List Rd) (key : ByteArray) (h : key ∉ fs.map (·.1)) : makeV (spansOf key fs) = [] := by
  have : spansOf key fs = [] := by
    unfold spansOf
    rw [List.map_eq_nil_iff, List.filter_eq_nil_iff]
    intro x hx hs
    unfold spanB at hs
    rw [Bool.and_eq_true, keyB_iff] at hs
    exact h (List.mem_map.2 ⟨x, hx, hs.1⟩)
  rw [this]
  simp [makeV, sortS, mergeS]
theorem makeV_le (l : List Sp) : (makeV l).length ≤ 1000000 := by
  by_cases h : l.all rightB = true
  · have := Ok.length (by omega) (by omega) (makeV_spec h).1; omega
  · unfold makeV; rw [if_neg h]; simp
end Go.Proofs.Ytbjhehmglahmpaa

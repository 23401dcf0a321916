/- Plain laws on Before and Nth. No program in sight. -/
import Derived.Test.YtalconpcpegmlaaDoorSpanW2
namespace Go.Proofs.YtalconpcpegmlaaDoor

theorem before_cons (s : Sp) (l : List Sp) (day : Int) : beforeS (s :: l) day = (if s.1 < day then min s.2 day - s.1 else 0) + beforeS l day := by
  rw [beforeS, List.foldl_cons, before_acc]
  show beforeStep day 0 s + beforeS l day = _
  unfold beforeStep
  by_cases h : s.1 < day <;> simp only [h, ↓reduceIte] <;> omega
theorem before_lo : ∀ {l : List Sp} {e day : Int}, Ok e l → day ≤ e + 1 → beforeS l day = 0
  | [], _, _, _, _ => rfl
  | s :: l, e, day, h, hd => by
    have h1 := h.1; have h3 := h.2.2.1
    rw [before_cons, before_lo h.2.2.2.2 (by omega), if_neg (by omega)]; rfl
theorem before_nonneg : ∀ {l : List Sp} {e : Int} (day : Int), Ok e l → 0 ≤ beforeS l day
  | [], _, _, _ => by simp [beforeS]
  | s :: l, e, day, h => by
    have h3 := h.2.2.1
    have := before_nonneg day h.2.2.2.2
    rw [before_cons]
    by_cases h : s.1 < day
    · rw [if_pos h]; omega
    · rw [if_neg h]; omega
theorem before_le : ∀ {l : List Sp} {e : Int} (day : Int), -1 ≤ e → e ≤ 65536 → Ok e l → beforeS l day ≤ 65536 - e
  | [], _, _, _, h, _ => by simp [beforeS]; omega
  | s :: l, e, day, he, h6, h => by
    have h1 := h.1; have h3 := h.2.2.1
    have := before_le day (by omega) h.2.2.2.1 h.2.2.2.2
    rw [before_cons]
    by_cases h : s.1 < day
    · rw [if_pos h]; omega
    · rw [if_neg h]; omega
theorem nth_yes : ∀ {l : List Sp} {e n : Int}, Ok e l → 0 ≤ n → n < beforeS l 65536 → ∃ d, nthS l n = (d, true) ∧ memB d l = true ∧ beforeS l d = n
  | [], _, n, _, h0, h => by simp [beforeS] at h; omega
  | s :: l, e, n, hk, h0, h => by
    obtain ⟨h1, h2, h3, h4, h5⟩ := hk
    rw [before_cons, if_pos (by omega)] at h
    by_cases hn : n < s.2 - s.1
    · refine ⟨s.1 + n, by rw [nthS, if_pos hn], by rw [memB_cons, (inS_iff _ _).2 ⟨by omega, by omega⟩]; rfl, ?_⟩
      rw [before_cons, before_lo h5 (by omega)]
      by_cases hz : s.1 < s.1 + n
      · rw [if_pos hz]; omega
      · rw [if_neg hz]; omega
    · obtain ⟨d, g1, g2, g3⟩ := nth_yes (n := n - (s.2 - s.1)) h5 (by omega) (by omega)
      have := h5.mem_gt g2
      refine ⟨d, by rw [nthS, if_neg hn]; exact g1, by rw [memB_cons, g2, Bool.or_true], ?_⟩
      rw [before_cons, if_pos (by omega), g3]; omega
theorem nth_no : ∀ {l : List Sp} {e n : Int}, Ok e l → 0 ≤ n → beforeS l 65536 ≤ n → nthS l n = (0, false)
  | [], _, _, _, _, _ => rfl
  | s :: l, e, n, hk, h0, h => by
    obtain ⟨h1, h2, h3, h4, h5⟩ := hk
    have := before_nonneg 65536 h5
    rw [before_cons, if_pos (by omega)] at h
    rw [nthS, if_neg (by omega)]
    exact nth_no h5 (by omega) (by omega)
theorem nth_mem : ∀ {l : List Sp} {e d : Int}, Ok e l → memB d l = true → nthS l (beforeS l d) = (d, true)
  | [], _, _, _, h => by simp at h
  | s :: l, e, d, hk, h => by
    obtain ⟨h1, h2, h3, h4, h5⟩ := hk
    rw [memB_cons, Bool.or_eq_true, inS_iff] at h
    rw [before_cons]
    rcases h with h | h
    · rw [before_lo h5 (by omega)]
      by_cases hz : s.1 < d
      · rw [if_pos hz, nthS, if_pos (by omega)]; congr 1; omega
      · rw [if_neg hz, nthS, if_pos (by omega)]; congr 1; omega
    · have hg := h5.mem_gt h
      have hb := before_nonneg d h5
      rw [if_pos (by omega), nthS, if_neg (by omega)]
      have : min s.2 d - s.1 + beforeS l d - (s.2 - s.1) = beforeS l d := by omega
      rw [this]
      exact nth_mem h5 h
theorem nth_ge : ∀ {l : List Sp} {e day x : Int}, Ok e l → nthS l (beforeS l day) = (x, true) → day ≤ x
  | [], _, _, _, _, h => by simp [nthS] at h
  | s :: l, e, day, x, hk, h => by
    obtain ⟨h1, h2, h3, h4, h5⟩ := hk
    rw [before_cons] at h
    have hb := before_nonneg day h5
    by_cases hz : s.1 < day
    · rw [if_pos hz] at h
      by_cases hs : s.2 ≤ day
      · rw [nthS, if_neg (by omega)] at h
        have : min s.2 day - s.1 + beforeS l day - (s.2 - s.1) = beforeS l day := by omega
        rw [this] at h
        exact nth_ge h5 h
      · rw [before_lo h5 (by omega)] at h
        rw [nthS, if_pos (by omega)] at h
        simp only [Prod.mk.injEq, and_true] at h
        omega
    · rw [if_neg hz, before_lo h5 (by omega), nthS, if_pos (by omega)] at h
      simp only [Prod.mk.injEq, and_true] at h
      omega
end Go.Proofs.YtalconpcpegmlaaDoor

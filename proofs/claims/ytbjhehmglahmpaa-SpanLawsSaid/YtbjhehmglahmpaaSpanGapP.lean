import Derived.Test.YtbjhehmglahmpaaSpanAlg
/- Facts in plain Lean about bridging: which gaps it fills, which stay. -/
namespace Go.Proofs.Ytbjhehmglahmpaa

def brg (days : Int) : Sp → List Sp → List Sp
  | q, [] => [q]
  | q, t :: l => if t.1 - q.2 ≤ days then brg days (q.1, t.2) l else q :: brg days t l
theorem brg_go (days : Int) : ∀ (l : List Sp) (p : List Sp) (q : Sp), l.foldl (bridgeStep days) (p ++ [q]) = p ++ brg days q l
  | [], p, q => rfl
  | t :: l, p, q => by
    rw [List.foldl_cons, brg]
    by_cases h : t.1 - q.2 ≤ days
    · rw [bridgeStep_in h, if_pos h, brg_go days l p]
    · rw [bridgeStep_out h, if_neg h, brg_go days l (p ++ [q]) t, List.append_assoc]; rfl
theorem bridgeS_cons (days : Int) (q : Sp) (l : List Sp) : bridgeS days (q :: l) = brg days q l := by
  unfold bridgeS; rw [List.foldl_cons, bridgeStep_nil]; exact brg_go days l [] q
/-- All gaps are greater. -/
def Far (days : Int) : List Sp → Prop
  | s :: t :: l => days < t.1 - s.2 ∧ Far days (t :: l)
  | _ => True
theorem brg_head (days : Int) : ∀ (l : List Sp) (q : Sp), ∃ z r, brg days q l = (q.1, z) :: r
  | [], q => ⟨q.2, [], rfl⟩
  | t :: l, q => by
    rw [brg]
    split
    · exact brg_head days l (q.1, t.2)
    · exact ⟨q.2, _, rfl⟩
theorem brg_far (days : Int) : ∀ (l : List Sp) (q : Sp), Far days (brg days q l)
  | [], q => trivial
  | t :: l, q => by
    rw [brg]
    split
    · exact brg_far days l _
    · obtain ⟨z, r, h⟩ := brg_head days l t
      have := brg_far days l t
      rw [h] at this ⊢
      exact ⟨by show days < t.1 - q.2; omega, this⟩
theorem far_same (days : Int) : ∀ (l : List Sp) (q : Sp), Far days (q :: l) → brg days q l = q :: l
  | [], q, _ => rfl
  | t :: l, q, h => by
    obtain ⟨h1, h2⟩ := h
    rw [brg, if_neg (by omega), far_same days l t h2]
theorem brg_last (days : Int) : ∀ (l : List Sp) (q : Sp), ∃ p z e, brg days q l = p ++ [(z, e)] ∧ ∃ p' z', q :: l = p' ++ [(z', e)]
  | [], q => ⟨[], q.1, q.2, rfl, [], q.1, rfl⟩
  | t :: l, q => by
    rw [brg]
    split
    · obtain ⟨p, z, e, h1, p', z', h2⟩ := brg_last days l (q.1, t.2)
      refine ⟨p, z, e, h1, ?_⟩
      cases p' with
      | nil =>
        simp only [List.nil_append, List.cons.injEq, Prod.mk.injEq] at h2
        obtain ⟨⟨_, h3⟩, h4⟩ := h2
        subst h4
        exact ⟨[q], t.1, by rw [← h3]; rfl⟩
      | cons a p' =>
        simp only [List.cons_append, List.cons.injEq] at h2
        exact ⟨q :: t :: p', z', by rw [h2.2]; rfl⟩
    · obtain ⟨p, z, e, h1, p', z', h2⟩ := brg_last days l t
      exact ⟨q :: p, z, e, by rw [h1]; rfl, q :: p', z', by rw [h2]; rfl⟩
theorem Far.at (days : Int) : ∀ (l : List Sp), Far days l → ∀ i (h : i + 1 < l.length), days < l[i + 1].1 - l[i].2
  | s :: t :: l, h, i, hi => by
    cases i with
    | zero => exact h.1
    | succ i => exact Far.at days (t :: l) h.2 i (by simpa using hi)
def gapL (days : Int) : Sp → List Sp → List Sp
  | _, [] => []
  | q, t :: l => if t.1 - q.2 ≤ days then (q.2, t.1) :: gapL days t l else gapL days t l
theorem gapL_mem (days : Int) (d : Int) : ∀ (l : List Sp) (q : Sp), memB d (gapL days q l) = gapB days d q.2 l
  | [], q => rfl
  | t :: l, q => by
    rw [gapL, gapB]
    split
    · rw [memB_cons, gapL_mem days d l t, decide_eq_true (by assumption), Bool.true_and]
    · rw [gapL_mem days d l t, decide_eq_false (by assumption), Bool.false_and, Bool.false_or]
theorem gapL_ok (days : Int) : ∀ (l : List Sp) (q : Sp) (e : Int), Ok e (q :: l) → Ok q.1 (gapL days q l)
  | [], q, e, h => trivial
  | t :: l, q, e, h => by
    obtain ⟨h1, h2, h3, h4, h5⟩ := h
    have ih := gapL_ok days l t q.2 h5
    obtain ⟨g1, g2, g3, g4, g5⟩ := h5
    rw [gapL]
    split
    · exact ⟨h3, by show 0 ≤ q.2; omega, g1, by show t.1 ≤ 65536; omega, ih⟩
    · exact ih.mono (by omega)
theorem gapL_out (days : Int) : ∀ (l : List Sp) (q : Sp) (e d : Int), Ok e (q :: l) → memB d (gapL days q l) = true → memB d (q :: l) = false
  | [], q, e, d, h, hm => by simp [gapL, memB] at hm
  | t :: l, q, e, d, h, hm => by
    have ho := gapL_ok days l t q.2 h.2.2.2.2
    obtain ⟨h1, h2, h3, h4, h5⟩ := h
    have hq5 := h5
    obtain ⟨g1, g2, g3, g4, g5⟩ := h5
    rw [gapL] at hm
    have hrest : memB d (gapL days t l) = true → memB d (q :: t :: l) = false := fun hm => by
      have := ho.mem_gt hm
      rw [memB_cons, gapL_out days l t q.2 d hq5 hm, (inS_false d q).2 (by omega)]; rfl
    split at hm
    · rw [memB_cons, Bool.or_eq_true] at hm
      rcases hm with hm | hm
      · have := (inS_iff d _).1 hm
        dsimp only at this
        rw [memB_cons, memB_cons, (inS_false d q).2 (by omega), (inS_false d t).2 (by omega), Ok.mem_false g5 (by omega)]; rfl
      · exact hrest hm
    · exact hrest hm
theorem gapL_all (days : Int) : ∀ (l : List Sp) (q : Sp) (e : Int), Ok e (q :: l) → ∀ s ∈ gapL days q l, s.2 - s.1 ≤ days ∧ memB (s.1 - 1) (q :: l) = true ∧ memB s.2 (q :: l) = true
  | [], q, e, h, s, hs => by simp [gapL] at hs
  | t :: l, q, e, h, s, hs => by
    obtain ⟨h1, h2, h3, h4, h5⟩ := h
    have ih := gapL_all days l t q.2 h5
    obtain ⟨g1, g2, g3, g4, g5⟩ := h5
    rw [gapL] at hs
    have hrest : s ∈ gapL days t l → s.2 - s.1 ≤ days ∧ memB (s.1 - 1) (q :: t :: l) = true ∧ memB s.2 (q :: t :: l) = true := fun hm => by
      obtain ⟨i1, i2, i3⟩ := ih s hm
      rw [memB_cons, i2, memB_cons (d := s.2), i3]
      exact ⟨i1, by simp, by simp⟩
    split at hs
    · rcases List.mem_cons.1 hs with rfl | hm
      · refine ⟨by assumption, ?_, ?_⟩
        · rw [memB_cons, (inS_iff _ q).2 (by dsimp only; omega)]; rfl
        · rw [memB_cons, memB_cons, (inS_iff _ t).2 (by dsimp only; omega)]; simp
      · exact hrest hm
    · exact hrest hs
theorem Ok.bounds2 : ∀ {l : List Sp} {e : Int}, Ok e l → ∀ s ∈ l, 0 ≤ s.1 ∧ s.1 < s.2 ∧ s.2 ≤ 65536
  | [], _, _ => fun s h => by cases h
  | t :: l, e, h => fun s hs => by
    obtain ⟨_, h1, h2, h3, h4⟩ := h
    rcases List.mem_cons.1 hs with rfl | hs
    · exact ⟨h1, h2, h3⟩
    · exact Ok.bounds2 h4 s hs
/-- What SpanGaps asks of the bridge of a set. -/
theorem gaps_facts {l : List Sp} (h : Ok (-1) l) {days : Int} (B R : List Sp) (hB : bridgeS days l = B) (hR : dS B l = R) :
    Ok (-1) B ∧ Ok (-1) R ∧ withinB l B = true ∧ bridgeS days B = B ∧ (l = [] ↔ B = []) ∧ Far days B ∧
    (∀ s ∈ R, 0 ≤ s.1 ∧ s.1 < s.2 ∧ s.2 ≤ 65536 ∧ s.2 - s.1 ≤ days ∧ memB (s.1 - 1) l = true ∧ memB s.2 l = true) ∧
    (∀ q l', l = q :: l' → (∃ z r, B = (q.1, z) :: r)) ∧ (∀ p z e, l = p ++ [(z, e)] → ∃ p' z', B = p' ++ [(z', e)]) := by
  subst hB; subst hR
  obtain ⟨o1, o2⟩ := bridgeS_spec days h
  obtain ⟨o3, o4⟩ := dS_spec o1 h
  refine ⟨o1, o3, within_true h o1 fun d hd => by rw [o2, hd]; rfl, ?_, ?_, ?_, ?_, ?_, ?_⟩
  · cases l with
    | nil => rfl
    | cons q l =>
      rw [bridgeS_cons]
      obtain ⟨z, r, hh⟩ := brg_head days l q
      have hf := brg_far days l q
      rw [hh] at hf ⊢
      rw [bridgeS_cons, far_same days r _ hf]
  · cases l with
    | nil => exact ⟨fun _ => rfl, fun _ => rfl⟩
    | cons q l =>
      rw [bridgeS_cons]
      obtain ⟨z, r, hh⟩ := brg_head days l q
      rw [hh]; simp
  · cases l with
    | nil => trivial
    | cons q l => rw [bridgeS_cons]; exact brg_far days l q
  · cases l with
    | nil =>
      have : dS (bridgeS days []) [] = [] := emptyS o3 fun d => by rw [o4]; rfl
      rw [this]; intro s hs; cases hs
    | cons q l =>
      have hg := gapL_ok days l q (-1) h
      have e : dS (bridgeS days (q :: l)) (q :: l) = gapL days q l := Ok.ext o3 hg fun d => by
        rw [o4, o2, gapL_mem]
        show ((_ || gapB days d q.2 l) && _) = _
        cases hb : gapB days d q.2 l with
        | false => cases memB d (q :: l) <;> rfl
        | true =>
          rw [gapL_out days l q (-1) d h (by rw [gapL_mem]; exact hb)]; rfl
      rw [e]
      intro s hs
      have hb := Ok.bounds2 hg s hs
      exact ⟨hb.1, hb.2.1, hb.2.2, gapL_all days l q (-1) h s hs⟩
  · rintro q l' rfl
    rw [bridgeS_cons]; exact brg_head days l' q
  · intro p z e hl
    cases l with
    | nil => simp at hl
    | cons q l =>
      rw [bridgeS_cons]
      obtain ⟨p1, z1, e1, h1, p2, z2, h2⟩ := brg_last days l q
      rw [h2] at hl
      have := List.append_inj' hl rfl
      simp only [List.cons.injEq, Prod.mk.injEq, and_true] at this
      rw [h1, this.2.2]
      exact ⟨p1, z1, rfl⟩
end Go.Proofs.Ytbjhehmglahmpaa

import Derived.Test.YtbjhehmglahmpaaSpanAlg
/- Facts in plain Lean about union, meet and difference of sets: the laws that SpanLaws asks. -/
namespace Go.Proofs.Ytbjhehmglahmpaa

/-- Each element from this one on, counted from the end, is in the list. -/
def Cov (l : List Sp) (n : Nat) (out : List Sp) : Prop := ∀ j (h : j < l.length), l.length ≤ j + n → l[j] ∈ out
theorem Cov.zero (l out : List Sp) : Cov l 0 out := fun j h h2 => by omega
theorem Cov.more {l out : List Sp} {n : Nat} (h : Cov l n out) (y : Sp) : Cov l n (out ++ [y]) := fun j hj h2 => List.mem_append_left _ (h j hj h2)
theorem Cov.step {l out : List Sp} {n k : Nat} (h : Cov l n out) (hk : k < l.length) (hn : l.length = k + n + 1) : Cov l (n + 1) (out ++ [l[k]]) := fun j hj h2 => by
  by_cases hjk : j = k
  · subst hjk; simp
  · exact List.mem_append_left _ (h j hj (by omega))
theorem Cov.done {l out : List Sp} {n : Nat} (h : Cov l n out) (hn : l.length ≤ n) (m : Nat) : Cov l m out := fun j hj _ => h j hj (by omega)
theorem memB_of_mem {l : List Sp} {s : Sp} {d : Int} (hs : s ∈ l) (hd : inS d s = true) : memB d l = true := List.any_eq_true.2 ⟨s, hs, hd⟩
theorem mem_of_memB {l : List Sp} {d : Int} (h : memB d l = true) : ∃ s ∈ l, inS d s = true := List.any_eq_true.1 h
theorem Ok.bounds3 : ∀ {l : List Sp} {e : Int}, Ok e l → ∀ s ∈ l, 0 ≤ s.1 ∧ s.1 < s.2 ∧ s.2 ≤ 65536
  | [], _, _ => fun s h => by cases h
  | t :: l, e, h => fun s hs => by
    obtain ⟨_, h1, h2, h3, h4⟩ := h
    rcases List.mem_cons.1 hs with rfl | hs
    · exact ⟨h1, h2, h3⟩
    · exact Ok.bounds3 h4 s hs
/-- Make of all spans of two sets is their union. -/
theorem mixed_made {a b out : List Sp} {n : Nat} (ha : Ok (-1) a) (hb : Ok (-1) b) (hs : ∀ s ∈ out, s ∈ a ∨ s ∈ b) (ca : Cov a n out) (cb : Cov b n out) (hna : a.length ≤ n) (hnb : b.length ≤ n) :
    makeV out = uS a b ∧ makeE out = 0 := by
  have hr : out.all rightB = true := by
    rw [List.all_eq_true]
    intro s h
    rw [rightB_iff]
    rcases hs s h with h | h
    · have := ha.bounds3 s h; omega
    · have := hb.bounds3 s h; omega
  obtain ⟨h1, h2⟩ := makeV_spec hr
  obtain ⟨h3, h4⟩ := uS_spec ha hb
  refine ⟨Ok.ext h1 h3 fun d => ?_, by unfold makeE; rw [if_pos hr]⟩
  rw [h2, h4, Bool.eq_iff_iff, Bool.or_eq_true]
  constructor
  · intro h
    obtain ⟨s, g1, g2⟩ := mem_of_memB h
    rcases hs s g1 with g | g
    · exact .inl (memB_of_mem g g2)
    · exact .inr (memB_of_mem g g2)
  · rintro (h | h)
    · obtain ⟨s, g1, g2⟩ := mem_of_memB h
      obtain ⟨j, hj, rfl⟩ := List.getElem_of_mem g1
      exact memB_of_mem (ca j hj (by omega)) g2
    · obtain ⟨s, g1, g2⟩ := mem_of_memB h
      obtain ⟨j, hj, rfl⟩ := List.getElem_of_mem g1
      exact memB_of_mem (cb j hj (by omega)) g2
theorem law_uc {a b : List Sp} (ha : Ok (-1) a) (hb : Ok (-1) b) : uS b a = uS a b :=
  Ok.ext (uS_spec hb ha).1 (uS_spec ha hb).1 fun d => by rw [(uS_spec hb ha).2, (uS_spec ha hb).2, Bool.or_comm]
theorem law_mc {a b : List Sp} (ha : Ok (-1) a) (hb : Ok (-1) b) : mS b a = mS a b :=
  Ok.ext (mS_spec hb ha).1 (mS_spec ha hb).1 fun d => by rw [(mS_spec hb ha).2, (mS_spec ha hb).2, Bool.and_comm]
theorem law_ua {a b c : List Sp} (ha : Ok (-1) a) (hb : Ok (-1) b) (hc : Ok (-1) c) : uS a (uS b c) = uS (uS a b) c := by
  have h1 := uS_spec ha hb
  have h2 := uS_spec hb hc
  have h3 := uS_spec h1.1 hc
  have h4 := uS_spec ha h2.1
  exact Ok.ext h4.1 h3.1 fun d => by rw [h4.2, h3.2, h1.2, h2.2, Bool.or_assoc]
theorem law_ma {a b c : List Sp} (ha : Ok (-1) a) (hb : Ok (-1) b) (hc : Ok (-1) c) : mS a (mS b c) = mS (mS a b) c := by
  have h1 := mS_spec ha hb
  have h2 := mS_spec hb hc
  have h3 := mS_spec h1.1 hc
  have h4 := mS_spec ha h2.1
  exact Ok.ext h4.1 h3.1 fun d => by rw [h4.2, h3.2, h1.2, h2.2, Bool.and_assoc]
theorem law_mu {a b c : List Sp} (ha : Ok (-1) a) (hb : Ok (-1) b) (hc : Ok (-1) c) : uS (mS a b) (mS a c) = mS a (uS b c) := by
  have h1 := mS_spec ha hb
  have h2 := mS_spec ha hc
  have h3 := uS_spec hb hc
  have h4 := uS_spec h1.1 h2.1
  have h5 := mS_spec ha h3.1
  exact Ok.ext h4.1 h5.1 fun d => by rw [h4.2, h5.2, h1.2, h2.2, h3.2, Bool.and_or_distrib_left]
theorem law_um {a b c : List Sp} (ha : Ok (-1) a) (hb : Ok (-1) b) (hc : Ok (-1) c) : mS (uS a b) (uS a c) = uS a (mS b c) := by
  have h1 := uS_spec ha hb
  have h2 := uS_spec ha hc
  have h3 := mS_spec hb hc
  have h4 := mS_spec h1.1 h2.1
  have h5 := uS_spec ha h3.1
  exact Ok.ext h4.1 h5.1 fun d => by rw [h4.2, h5.2, h1.2, h2.2, h3.2, Bool.or_and_distrib_left]
theorem law_dm {a b : List Sp} (ha : Ok (-1) a) (hb : Ok (-1) b) : dS a (mS a b) = dS a b := by
  have h1 := mS_spec ha hb
  have h2 := dS_spec ha hb
  have h3 := dS_spec ha h1.1
  exact Ok.ext h3.1 h2.1 fun d => by rw [h3.2, h2.2, h1.2]; cases memB d a <;> cases memB d b <;> rfl
end Go.Proofs.Ytbjhehmglahmpaa

import Derived.Test.YtbjhehmglahmpaaSpanAlg
/- Facts in plain Lean about a set read off day by day: the runs of the days that are marked. -/
namespace Go.Proofs.Ytbjhehmglahmpaa

def setTo (l : List Sp) (t : Int) : List Sp :=
  match l.getLast? with
  | some q => l.dropLast ++ [(q.1, t)]
  | none => []
theorem setTo_snoc (p : List Sp) (q : Sp) (t : Int) : setTo (p ++ [q]) t = p ++ [(q.1, t)] := by simp [setTo]
def runs (f : Int → Bool) : Nat → List Sp
  | 0 => []
  | n + 1 => if f n = true then (if 0 < n ∧ f ((n : Int) - 1) = true then setTo (runs f n) ((n : Int) + 1) else runs f n ++ [((n : Int), (n : Int) + 1)]) else runs f n
theorem memB_one (d : Int) (s : Sp) : memB d [s] = inS d s := by simp [memB]
structure Runs (f : Int → Bool) (n : Nat) : Prop where
  ok : Ok (-1) (runs f n)
  mem : ∀ d, memB d (runs f n) = (decide (0 ≤ d ∧ d < (n : Int)) && f d)
  open_ : 0 < n → f ((n : Int) - 1) = true → ∃ p q, runs f n = p ++ [q] ∧ q.2 = (n : Int)
  shut : ¬ (0 < n ∧ f ((n : Int) - 1) = true) → ∀ p q, runs f n = p ++ [q] → q.2 < (n : Int)
theorem runs_spec (f : Int → Bool) : ∀ n : Nat, n ≤ 65536 → Runs f n
  | 0, _ => ⟨trivial, fun d => by rw [decide_eq_false (by omega)]; rfl, fun h => absurd h (by omega), fun _ p q h => by simp [runs] at h⟩
  | n + 1, hn => by
    have ih := runs_spec f n (by omega)
    have hcast : ((n + 1 : Nat) : Int) - 1 = (n : Int) := by omega
    by_cases hf : f n = true
    · by_cases hp : 0 < n ∧ f ((n : Int) - 1) = true
      · obtain ⟨p, q, h1, h2⟩ := ih.open_ hp.1 hp.2
        have e : runs f (n + 1) = p ++ [(q.1, (n : Int) + 1)] := by rw [runs, if_pos hf, if_pos hp, h1, setTo_snoc]
        have ho := ih.ok
        rw [h1] at ho
        have hq := ho.last
        refine ⟨?_, fun d => ?_, fun _ _ => ⟨p, _, e, by push_cast; rfl⟩, fun h => absurd ⟨by omega, by rw [hcast]; exact hf⟩ h⟩
        · rw [e]; exact ho.relast (by omega) (by omega)
        · have hm := ih.mem d
          rw [h1, memB_append, memB_one] at hm
          rw [e, memB_append, memB_one]
          by_cases hd : d = (n : Int)
          · subst hd
            rw [(inS_iff _ _).2 (by dsimp only; omega), hf, decide_eq_true (by omega)]; simp
          · have h3 : inS d (q.1, (n : Int) + 1) = inS d q := by
              rw [Bool.eq_iff_iff, inS_iff, inS_iff]; dsimp only; omega
            rw [h3, hm]
            congr 1
            rw [Bool.eq_iff_iff, decide_eq_true_iff, decide_eq_true_iff]; omega
      · have e : runs f (n + 1) = runs f n ++ [((n : Int), (n : Int) + 1)] := by rw [runs, if_pos hf, if_neg hp]
        refine ⟨?_, fun d => ?_, fun _ _ => ⟨_, _, e, by push_cast; rfl⟩, fun h => absurd ⟨by omega, by rw [hcast]; exact hf⟩ h⟩
        · rw [e]
          rcases nil_or_snoc (runs f n) with h | ⟨p, q, h⟩
          · rw [h]
            exact ⟨by show (-1 : Int) < n; omega, by show 0 ≤ (n : Int); omega, by show (n : Int) < n + 1; omega, by show (n : Int) + 1 ≤ 65536; omega, trivial⟩
          · have h2 := ih.shut hp p q h
            have ho := ih.ok
            rw [h] at ho ⊢
            exact Ok.snoc.2 ⟨ho, by show q.2 < (n : Int); omega, by show 0 ≤ (n : Int); omega, by show (n : Int) < n + 1; omega, by show (n : Int) + 1 ≤ 65536; omega⟩
        · rw [e, memB_append, memB_one, ih.mem d]
          by_cases hd : d = (n : Int)
          · subst hd
            rw [(inS_iff (n : Int) ((n : Int), (n : Int) + 1)).2 (by dsimp only; omega), Bool.or_true, hf, Bool.and_true]
            exact (decide_eq_true (by omega)).symm
          · rw [(inS_false _ _).2 (by dsimp only; omega), Bool.or_false]
            congr 1
            rw [Bool.eq_iff_iff, decide_eq_true_iff, decide_eq_true_iff]; omega
    · have hf' : f n = false := by simpa using hf
      have e : runs f (n + 1) = runs f n := by rw [runs, if_neg hf]
      refine ⟨by rw [e]; exact ih.ok, fun d => ?_, fun _ h => absurd (by rw [hcast] at h; exact h) hf, fun _ p q h => ?_⟩
      · rw [e, ih.mem d]
        by_cases hd : d = (n : Int)
        · subst hd; rw [hf']; simp
        · congr 1
          rw [Bool.eq_iff_iff, decide_eq_true_iff, decide_eq_true_iff]; omega
      · rw [e] at h
        by_cases hp : 0 < n ∧ f ((n : Int) - 1) = true
        · obtain ⟨p2, q2, h1, h2⟩ := ih.open_ hp.1 hp.2
          rw [h] at h1
          have := List.append_inj' h1 rfl
          simp only [List.cons.injEq, and_true] at this
          rw [this.2, h2]; omega
        · have := ih.shut hp p q h; omega
/-- A set is the runs of its own days. -/
theorem runs_of {f : Int → Bool} {l : List Sp} (h : Ok (-1) l) (hf : ∀ d, 0 ≤ d → d < 65536 → f d = memB d l) : runs f 65536 = l := by
  have hr := runs_spec f 65536 (Nat.le_refl _)
  refine Ok.ext hr.ok h fun d => ?_
  rw [hr.mem d]
  by_cases hd : 0 ≤ d ∧ d < 65536
  · rw [decide_eq_true (by omega), Bool.true_and, hf d hd.1 hd.2]
  · rw [decide_eq_false (by omega), Bool.false_and]
    cases hm : memB d l with
    | false => rfl
    | true => have := h.mem_gt hm; omega
theorem runs_make {l : List Sp} (h : l.all rightB = true) : runs (fun d => memB d l) 65536 = makeV l :=
  runs_of (makeV_spec h).1 fun d _ _ => ((makeV_spec h).2 d).symm
theorem mem_right {l : List Sp} (h : l.all rightB = true) {d : Int} (hd : memB d l = true) : 0 ≤ d ∧ d < 65536 := by
  obtain ⟨s, hs, hi⟩ := List.any_eq_true.1 hd
  have := (rightB_iff s).1 (List.all_eq_true.1 h s hs)
  have := (inS_iff d s).1 hi
  omega
end Go.Proofs.Ytbjhehmglahmpaa

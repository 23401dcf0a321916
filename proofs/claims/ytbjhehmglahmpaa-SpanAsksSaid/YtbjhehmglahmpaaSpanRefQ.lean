import Derived.Test.YtbjhehmglahmpaaSpanRefP
import Derived.Test.YtbjhehmglahmpaaSpanWe
import Derived.Test.YtbjhehmglahmpaaSpanQ
/- Facts in plain Lean: what the reference for spans computes day by day is what the sets are. -/
namespace Go.Proofs.Ytbjhehmglahmpaa

theorem runs_comb {keep : Bool → Bool → Bool} (hff : keep false false = false) {a b : List Sp} (ha : Ok (-1) a) (hb : Ok (-1) b) :
    runs (fun d => keep (memB d a) (memB d b)) 65536 = combS keep a b :=
  runs_of (combS_spec hff ha hb).1 fun d _ _ => ((combS_spec hff ha hb).2 d).symm
theorem runs_bridge (days : Int) {l : List Sp} (h : Ok (-1) l) : runs (fun d => memB d l || gapsB days d l) 65536 = bridgeS days l :=
  runs_of (bridgeS_spec days h).1 fun d _ _ => ((bridgeS_spec days h).2 d).symm
theorem validB_right : ∀ {l : List Sp} {e : Int}, validB e l = true → l.all rightB = true
  | [], _, _ => rfl
  | s :: l, e, h => by
    rw [validB] at h
    split at h
    · cases h
    · rename_i h2
      rw [List.all_cons, validB_right h, Bool.and_true]
      cases hr : rightB s with
      | true => rfl
      | false => exact absurd (.inl hr) h2
theorem within_no {a b : List Sp} (ha : Ok (-1) a) (hb : Ok (-1) b) {d : Int} (h1 : memB d a = true) (h2 : memB d b = false) : withinB a b = false := by
  rw [within_ok ha hb]
  have := (dS_spec ha hb).2 d
  rw [h1, h2] at this
  cases hd : dS a b with
  | nil => rw [hd] at this; simp at this
  | cons s l => rfl
theorem within_yes {a b : List Sp} (ha : Ok (-1) a) (hb : Ok (-1) b) (h : ∀ n : Nat, n < 65536 → memB (n : Int) a = true → memB (n : Int) b = true) : withinB a b = true := by
  refine within_true ha hb fun d hd => ?_
  have := ha.mem_gt hd
  obtain ⟨n, rfl⟩ : ∃ n : Nat, d = (n : Int) := ⟨d.toNat, by omega⟩
  exact h n (by omega) hd
theorem before_at {l : List Sp} (h : Ok (-1) l) (n : Nat) (day : Int) (hn : (n : Int) ≤ day ∧ n ≤ 65536) (hs : ¬ (n < 65536 ∧ (n : Int) < day)) : beforeS l day = cnt (fun d => memB d l) n := by
  by_cases h6 : n = 65536
  · subst h6
    rw [before_big h (by omega)]
    exact before_cnt h 65536
  · have : day = (n : Int) := by omega
    rw [this]
    exact before_cnt h n
theorem cnt_yes {f : Int → Bool} {n : Nat} (h : f n = true) : cnt f (n + 1) = cnt f n + 1 := by simp [cnt, h]
theorem cnt_no {f : Int → Bool} {n : Nat} (h : f n = false) : cnt f (n + 1) = cnt f n := by simp [cnt, h]
theorem nth_at {l : List Sp} (h : Ok (-1) l) {n : Nat} (hm : memB (n : Int) l = true) : nthS l (cnt (fun d => memB d l) n) = ((n : Int), true) := by
  rw [← before_cnt h n]; exact nth_mem h hm
theorem nth_end {l : List Sp} (h : Ok (-1) l) {n : Int} (h0 : 0 ≤ n) (hn : cnt (fun d => memB d l) 65536 ≤ n) : nthS l n = (0, false) :=
  nth_no h h0 (by have := before_cnt h 65536; rw [← this] at hn; exact hn)
end Go.Proofs.Ytbjhehmglahmpaa

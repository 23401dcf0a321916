import Derived.Test.YtalconpcpegmlaaDoorSpanWe
import Derived.Test.YtalconpcpegmlaaDoorSpanQ
/- Facts in plain Lean about sets of days: how many days they have, what is in them. -/
namespace Go.Proofs.YtalconpcpegmlaaDoor

abbrev uS (a b : List Sp) : List Sp := combS (fun x y => x || y) a b
abbrev mS (a b : List Sp) : List Sp := combS (fun x y => x && y) a b
abbrev dS (a b : List Sp) : List Sp := combS (fun x y => x && !y) a b
theorem Ok.valid {l : List Sp} (h : Ok (-1) l) : validB (-1) l = true := (validB_iff _ _).2 h
theorem combV_ok {a b : List Sp} (keep : Bool → Bool → Bool) (ha : Ok (-1) a) (hb : Ok (-1) b) : combV keep a b = combS keep a b := by
  unfold combV; rw [ha.valid, hb.valid]; rfl
theorem combE_ok {a b : List Sp} (ha : Ok (-1) a) (hb : Ok (-1) b) : combE a b = 0 := by
  unfold combE; rw [ha.valid, hb.valid]; rfl
theorem uS_spec {a b : List Sp} (ha : Ok (-1) a) (hb : Ok (-1) b) : Ok (-1) (uS a b) ∧ ∀ d, memB d (uS a b) = (memB d a || memB d b) := combS_spec rfl ha hb
theorem mS_spec {a b : List Sp} (ha : Ok (-1) a) (hb : Ok (-1) b) : Ok (-1) (mS a b) ∧ ∀ d, memB d (mS a b) = (memB d a && memB d b) := combS_spec rfl ha hb
theorem dS_spec {a b : List Sp} (ha : Ok (-1) a) (hb : Ok (-1) b) : Ok (-1) (dS a b) ∧ ∀ d, memB d (dS a b) = (memB d a && !memB d b) := combS_spec rfl ha hb
theorem Ok.len6 {l : List Sp} (h : Ok (-1) l) : l.length ≤ 1000000 := by have := Ok.length (by omega) (by omega) h; omega
theorem beforeV_ok {l : List Sp} (h : Ok (-1) l) (day : Int) : beforeV l day = beforeS l day := by unfold beforeV; rw [if_pos h.valid]
theorem Ok.days {l : List Sp} (h : Ok (-1) l) : beforeV l 65536 = cnt (fun d => memB d l) 65536 := by
  rw [beforeV_ok h]; exact before_cnt h 65536
theorem Ok.days_le {l : List Sp} (h : Ok (-1) l) : 0 ≤ beforeV l 65536 ∧ beforeV l 65536 ≤ 65537 := by
  rw [h.days]; have := cnt_nonneg (fun d => memB d l) 65536; omega
theorem cnt_split (f g : Int → Bool) : ∀ n : Nat, cnt (fun d => f d && !g d) n + cnt (fun d => f d && g d) n = cnt f n
  | 0 => rfl
  | n + 1 => by
    have := cnt_split f g n
    unfold cnt
    cases f n <;> cases g n <;> simp <;> omega
theorem Ok.nil_iff {l : List Sp} (h : Ok (-1) l) : beforeV l 65536 = 0 ↔ l = [] := by
  constructor
  · intro h0
    rw [h.days, cnt_zero_iff] at h0
    refine Ok.ext h (show Ok (-1) [] from trivial) fun d => ?_
    by_cases hd : 0 ≤ d ∧ d < 65536
    · rw [h0 d hd.1 (by omega)]; rfl
    · cases hm : memB d l with
      | false => rfl
      | true => have := h.mem_gt hm; omega
  · rintro rfl; rfl
theorem emptyS {l : List Sp} (h : Ok (-1) l) (hf : ∀ d, memB d l = false) : l = [] := Ok.ext h (show Ok (-1) [] from trivial) fun d => by rw [hf d]; rfl
theorem within_ok {a b : List Sp} (ha : Ok (-1) a) (hb : Ok (-1) b) : withinB a b = (dS a b).isEmpty := by
  unfold withinB; rw [ha.valid, hb.valid, combV_ok _ ha hb]; rfl
theorem within_true {a b : List Sp} (ha : Ok (-1) a) (hb : Ok (-1) b) (h : ∀ d, memB d a = true → memB d b = true) : withinB a b = true := by
  rw [within_ok ha hb, emptyS (dS_spec ha hb).1 (fun d => by rw [(dS_spec ha hb).2]; cases hm : memB d a with | false => rfl | true => rw [h d hm]; rfl)]; rfl
/-- The counts that SpanCounts asks. -/
theorem counts {a b : List Sp} (ha : Ok (-1) a) (hb : Ok (-1) b) :
    beforeV (uS a b) 65536 + beforeV (mS a b) 65536 = beforeV a 65536 + beforeV b 65536 ∧
    beforeV (dS a b) 65536 + beforeV (dS b a) 65536 + beforeV (mS a b) 65536 = beforeV (uS a b) 65536 ∧
    withinB (mS a b) a = true ∧ withinB a (uS a b) = true ∧ withinB a b = (dS a b).isEmpty ∧ withinB b a = decide (beforeV (mS a b) 65536 = beforeV b 65536) := by
  have hu := uS_spec ha hb
  have hm := mS_spec ha hb
  have h1 := dS_spec ha hb
  have h2 := dS_spec hb ha
  have e1 := cnt_or_and (fun d => memB d a) (fun d => memB d b) 65536
  have e2 := cnt_split (fun d => memB d a) (fun d => memB d b) 65536
  have e3 := cnt_split (fun d => memB d b) (fun d => memB d a) 65536
  have e4 : cnt (fun d => memB d b && memB d a) 65536 = cnt (fun d => memB d a && memB d b) 65536 := cnt_congr fun d _ _ => Bool.and_comm _ _
  have cu : beforeV (uS a b) 65536 = cnt (fun d => memB d a || memB d b) 65536 := by rw [hu.1.days]; exact cnt_congr fun d _ _ => hu.2 d
  have cm : beforeV (mS a b) 65536 = cnt (fun d => memB d a && memB d b) 65536 := by rw [hm.1.days]; exact cnt_congr fun d _ _ => hm.2 d
  have c1 : beforeV (dS a b) 65536 = cnt (fun d => memB d a && !memB d b) 65536 := by rw [h1.1.days]; exact cnt_congr fun d _ _ => h1.2 d
  have c2 : beforeV (dS b a) 65536 = cnt (fun d => memB d b && !memB d a) 65536 := by rw [h2.1.days]; exact cnt_congr fun d _ _ => h2.2 d
  refine ⟨by rw [cu, cm, ha.days, hb.days]; exact e1, by rw [cu, cm, c1, c2]; omega, within_true hm.1 ha fun d => by rw [hm.2]; simp only [Bool.and_eq_true]; exact And.left, within_true ha hu.1 fun d h => by rw [hu.2, h]; rfl, within_ok ha hb, ?_⟩
  rw [within_ok hb ha]
  by_cases hz : dS b a = []
  · have : beforeV (dS b a) 65536 = 0 := h2.1.nil_iff.2 hz
    rw [hz, cm, hb.days, decide_eq_true (by omega)]; rfl
  · have : ¬ beforeV (dS b a) 65536 = 0 := fun h => hz (h2.1.nil_iff.1 h)
    have e : (dS b a).isEmpty = false := by cases hq : dS b a with | nil => exact absurd hq hz | cons _ _ => rfl
    rw [e, cm, hb.days, decide_eq_false (by omega)]
end Go.Proofs.YtalconpcpegmlaaDoor

/- Plain laws on sets of days: lists of spans, their members, canonical form, merging, combining, bridging, counting. No program in sight. -/
namespace Go.Proofs.YtalconpcpegmlaaDoor
abbrev Sp := Int × Int

def rightB (s : Sp) : Bool := decide (0 ≤ s.1) && decide (s.1 ≤ s.2) && decide (s.2 ≤ 65536)
def validB : Int → List Sp → Bool
  | _, [] => true
  | e, s :: l => if rightB s = false ∨ s.1 = s.2 ∨ s.1 ≤ e then false else validB s.2 l
def Ok : Int → List Sp → Prop
  | _, [] => True
  | e, s :: l => e < s.1 ∧ 0 ≤ s.1 ∧ s.1 < s.2 ∧ s.2 ≤ 65536 ∧ Ok s.2 l
theorem validB_iff : ∀ (l : List Sp) (e : Int), validB e l = true ↔ Ok e l
  | [], e => by simp [validB, Ok]
  | s :: l, e => by
    rw [validB, Ok, ← validB_iff l s.2]
    simp only [rightB, Bool.and_eq_false_iff, decide_eq_false_iff_not]
    split
    · rename_i h; simp only [Bool.false_eq_true, false_iff]; intro h'; omega
    · rename_i h
      constructor
      · intro h'; exact ⟨by omega, by omega, by omega, by omega, h'⟩
      · intro h'; exact h'.2.2.2.2
def inS (d : Int) (s : Sp) : Bool := decide (s.1 ≤ d) && decide (d < s.2)
def memB (d : Int) (l : List Sp) : Bool := l.any (inS d)
theorem inS_iff (d : Int) (s : Sp) : inS d s = true ↔ s.1 ≤ d ∧ d < s.2 := by simp [inS]
theorem inS_false (d : Int) (s : Sp) : inS d s = false ↔ ¬ (s.1 ≤ d ∧ d < s.2) := by rw [← inS_iff]; simp
@[simp] theorem memB_nil (d : Int) : memB d [] = false := rfl
@[simp] theorem memB_cons (d : Int) (s : Sp) (l : List Sp) : memB d (s :: l) = (inS d s || memB d l) := rfl
@[simp] theorem memB_append (d : Int) (a b : List Sp) : memB d (a ++ b) = (memB d a || memB d b) := by simp [memB]
theorem Ok.mem_gt : ∀ {l : List Sp} {e d : Int}, Ok e l → memB d l = true → e < d ∧ 0 ≤ d ∧ d < 65536
  | [], _, _, _, h => by simp at h
  | s :: l, e, d, hk, h => by
    obtain ⟨h1, h2, h3, h4, h5⟩ := hk
    rw [memB_cons, Bool.or_eq_true, inS_iff] at h
    rcases h with h | h
    · omega
    · have := h5.mem_gt h; omega
theorem Ok.mono {l : List Sp} {e e' : Int} (h : Ok e l) (he : e' ≤ e) : Ok e' l := by
  cases l with
  | nil => trivial
  | cons s l => exact ⟨by have := h.1; omega, h.2⟩
theorem Ok.mem_false {l : List Sp} {e d : Int} (h : Ok e l) (hd : d ≤ e) : memB d l = false := by
  cases hm : memB d l with
  | false => rfl
  | true => have := h.mem_gt hm; omega
/-- One set has one form. -/
theorem Ok.ext : ∀ {a b : List Sp} {e f : Int}, Ok e a → Ok f b → (∀ d, memB d a = memB d b) → a = b
  | [], [], _, _, _, _, _ => rfl
  | [], t :: b, _, _, _, hb, h => by
    have := h t.1
    rw [memB_cons, (inS_iff t.1 t).2 ⟨by omega, hb.2.2.1⟩] at this
    simp at this
  | s :: a, [], _, _, ha, _, h => by
    have := h s.1
    rw [memB_cons, (inS_iff s.1 s).2 ⟨by omega, ha.2.2.1⟩] at this
    simp at this
  | s :: a, t :: b, e, f, ha, hb, h => by
    obtain ⟨a1, a2, a3, a4, a5⟩ := ha
    obtain ⟨b1, b2, b3, b4, b5⟩ := hb
    have lo : ∀ d, memB d (s :: a) = true → s.1 ≤ d := fun d hd => by
      rw [memB_cons, Bool.or_eq_true, inS_iff] at hd
      rcases hd with hd | hd
      · exact hd.1
      · have := a5.mem_gt hd; omega
    have lo' : ∀ d, memB d (t :: b) = true → t.1 ≤ d := fun d hd => by
      rw [memB_cons, Bool.or_eq_true, inS_iff] at hd
      rcases hd with hd | hd
      · exact hd.1
      · have := b5.mem_gt hd; omega
    have ms : memB s.1 (s :: a) = true := by rw [memB_cons, (inS_iff s.1 s).2 ⟨by omega, a3⟩]; rfl
    have mt : memB t.1 (t :: b) = true := by rw [memB_cons, (inS_iff t.1 t).2 ⟨by omega, b3⟩]; rfl
    have e1 : s.1 = t.1 := by
      have := lo' s.1 (by rw [← h]; exact ms)
      have := lo t.1 (by rw [h]; exact mt)
      omega
    have e2 : s.2 = t.2 := by
      rcases Int.lt_trichotomy s.2 t.2 with hlt | heq | hgt
      · have := h s.2
        rw [memB_cons, memB_cons, (inS_false s.2 s).2 (by omega), (inS_iff s.2 t).2 ⟨by omega, hlt⟩, a5.mem_false (by omega)] at this
        simp at this
      · exact heq
      · have := h t.2
        rw [memB_cons, memB_cons, (inS_false t.2 t).2 (by omega), (inS_iff t.2 s).2 ⟨by omega, hgt⟩, b5.mem_false (by omega)] at this
        simp at this
    have est : s = t := Prod.ext e1 e2
    subst est
    rw [a5.ext b5 fun d => ?_]
    by_cases hd : d ≤ s.2
    · rw [a5.mem_false hd, b5.mem_false hd]
    · have := h d
      rw [memB_cons, memB_cons, (inS_false d s).2 (by omega)] at this
      simpa using this

/-! ### Make -/
theorem Ok.snoc : ∀ {l : List Sp} {e : Int} {q s : Sp}, Ok e (l ++ [q] ++ [s]) ↔ Ok e (l ++ [q]) ∧ q.2 < s.1 ∧ 0 ≤ s.1 ∧ s.1 < s.2 ∧ s.2 ≤ 65536
  | [], e, q, s => by simp only [List.nil_append, List.cons_append, Ok]; constructor <;> (intro h; simp_all)
  | t :: l, e, q, s => by
    have := @Ok.snoc l t.2 q s
    simp only [List.cons_append, Ok] at this ⊢
    rw [this]
    constructor <;> (intro h; simp_all)
theorem Ok.last : ∀ {l : List Sp} {e : Int} {q : Sp}, Ok e (l ++ [q]) → 0 ≤ q.1 ∧ q.1 < q.2 ∧ q.2 ≤ 65536
  | [], e, q, h => by simp only [List.nil_append, Ok] at h; exact ⟨h.2.1, h.2.2.1, h.2.2.2.1⟩
  | t :: l, e, q, h => by simp only [List.cons_append, Ok] at h; exact h.2.2.2.2.last
theorem Ok.relast : ∀ {l : List Sp} {e : Int} {q : Sp} {t : Int}, Ok e (l ++ [q]) → q.1 < t → t ≤ 65536 → Ok e (l ++ [(q.1, t)])
  | [], e, q, t, h, h1, h2 => by simp only [List.nil_append, Ok] at h ⊢; exact ⟨h.1, h.2.1, h1, h2, trivial⟩
  | u :: l, e, q, t, h, h1, h2 => by simp only [List.cons_append, Ok] at h ⊢; exact ⟨h.1, h.2.1, h.2.2.1, h.2.2.2.1, h.2.2.2.2.relast h1 h2⟩
theorem nil_or_snoc {α : Type} (l : List α) : l = [] ∨ ∃ p q, l = p ++ [q] := by
  rcases List.eq_nil_or_concat l with h | ⟨p, q, h⟩
  · exact .inl h
  · exact .inr ⟨p, q, by simpa using h⟩
def mergeStep (out : List Sp) (s : Sp) : List Sp :=
  if s.1 = s.2 then out else
  match out.getLast? with
  | none => out ++ [s]
  | some q => if s.1 ≤ q.2 then out.dropLast ++ [(q.1, max q.2 s.2)] else out ++ [s]
def mergeS (l : List Sp) : List Sp := l.foldl mergeStep []
theorem mergeStep_same {out : List Sp} {s : Sp} (h : s.1 = s.2) : mergeStep out s = out := by rw [mergeStep, if_pos h]
theorem mergeStep_nil {s : Sp} (h : ¬ s.1 = s.2) : mergeStep [] s = [s] := by rw [mergeStep, if_neg h]; rfl
theorem mergeStep_in {p : List Sp} {q s : Sp} (h : ¬ s.1 = s.2) (h2 : s.1 ≤ q.2) : mergeStep (p ++ [q]) s = p ++ [(q.1, max q.2 s.2)] := by
  rw [mergeStep, if_neg h]; simp [h2]
theorem mergeStep_out {p : List Sp} {q s : Sp} (h : ¬ s.1 = s.2) (h2 : ¬ s.1 ≤ q.2) : mergeStep (p ++ [q]) s = p ++ [q] ++ [s] := by
  rw [mergeStep, if_neg h]; simp [h2]
theorem rightB_iff (s : Sp) : rightB s = true ↔ 0 ≤ s.1 ∧ s.1 ≤ s.2 ∧ s.2 ≤ 65536 := by simp [rightB, and_assoc]
theorem mergeStep_spec {out : List Sp} {s : Sp} (ho : Ok (-1) out) (hs : rightB s = true) (hl : ∀ p q, out = p ++ [q] → q.1 ≤ s.1) :
    Ok (-1) (mergeStep out s) ∧ (∀ d, memB d (mergeStep out s) = (memB d out || inS d s)) ∧ (∀ p q, mergeStep out s = p ++ [q] → q.1 ≤ s.1) := by
  rw [rightB_iff] at hs
  by_cases he : s.1 = s.2
  · rw [mergeStep_same he]
    exact ⟨ho, fun d => by rw [(inS_false d s).2 (by omega), Bool.or_false], hl⟩
  · rcases nil_or_snoc out with rfl | ⟨p, q, rfl⟩
    · rw [mergeStep_nil he]
      refine ⟨⟨by omega, by omega, by omega, by omega, trivial⟩, fun d => by simp, fun p q h => ?_⟩
      obtain ⟨rfl, rfl⟩ : p = [] ∧ s = q := by
        cases p with
        | nil => simpa using h
        | cons x p => simp at h
      omega
    · have hq := hl p q rfl
      have hlast := ho.last
      by_cases h2 : s.1 ≤ q.2
      · rw [mergeStep_in he h2]
        refine ⟨ho.relast (by omega) (by omega), fun d => ?_, fun p' q' h => ?_⟩
        · simp only [memB_append, memB_cons, memB_nil, Bool.or_false, Bool.or_assoc]
          congr 1
          rw [Bool.eq_iff_iff, Bool.or_eq_true, inS_iff, inS_iff, inS_iff]
          omega
        · have := List.append_inj' h rfl
          simp only [List.cons.injEq, and_true] at this
          rw [← this.2]
          exact hq
      · rw [mergeStep_out he h2]
        refine ⟨Ok.snoc.2 ⟨ho, by omega, by omega, by omega, by omega⟩, fun d => by simp [Bool.or_assoc], fun p' q' h => ?_⟩
        have := List.append_inj' h rfl
        simp only [List.cons.injEq, and_true] at this
        rw [← this.2]
        exact Int.le_refl _
/-- In the order of From. -/
def Asc : Int → List Sp → Prop
  | _, [] => True
  | m, s :: l => m ≤ s.1 ∧ Asc s.1 l
theorem merge_go : ∀ (l : List Sp) (out : List Sp) (m : Int), Ok (-1) out → (∀ p q, out = p ++ [q] → q.1 ≤ m) → Asc m l → (l.all rightB) = true →
    Ok (-1) (l.foldl mergeStep out) ∧ ∀ d, memB d (l.foldl mergeStep out) = (memB d out || memB d l)
  | [], out, m, ho, _, _, _ => ⟨ho, fun d => by simp⟩
  | s :: l, out, m, ho, hl, ha, hr => by
    simp only [List.all_cons, Bool.and_eq_true] at hr
    obtain ⟨h1, h2, h3⟩ := mergeStep_spec ho hr.1 fun p q h => Int.le_trans (hl p q h) ha.1
    obtain ⟨h4, h5⟩ := merge_go l _ s.1 h1 h3 ha.2 hr.2
    exact ⟨h4, fun d => by rw [List.foldl_cons, h5, h2, memB_cons, Bool.or_assoc]⟩
theorem mergeS_spec {l : List Sp} {m : Int} (ha : Asc m l) (hr : (l.all rightB) = true) : Ok (-1) (mergeS l) ∧ ∀ d, memB d (mergeS l) = memB d l := by
  obtain ⟨h1, h2⟩ := merge_go l [] m trivial (fun p q h => by simp at h) ha hr
  exact ⟨h1, fun d => by rw [mergeS, h2]; simp⟩

/-! ### Combining: changes of membership -/
def chs : List Sp → List Int
  | [] => []
  | s :: l => s.1 :: s.2 :: chs l
/-- Membership after the changes up to a day. -/
def ins : Bool → List Int → Int → Bool
  | f, [], _ => f
  | f, x :: A, d => if d < x then f else ins (!f) A d
/-- Changes that increase strictly from e on, up to 65536. -/
def SI : Int → List Int → Prop
  | _, [] => True
  | e, x :: A => e < x ∧ x ≤ 65536 ∧ SI x A
theorem chs_len : ∀ l : List Sp, (chs l).length = 2 * l.length
  | [] => rfl
  | s :: l => by simp [chs, chs_len l]; omega
theorem Ok.si : ∀ {l : List Sp} {e : Int}, Ok e l → SI e (chs l)
  | [], _, _ => trivial
  | s :: l, e, h => ⟨h.1, by have := h.2.2; omega, h.2.2.1, h.2.2.2.1, h.2.2.2.2.si⟩
theorem Ok.ins_chs : ∀ {l : List Sp} {e : Int}, Ok e l → ∀ d, ins false (chs l) d = memB d l
  | [], _, _, d => rfl
  | s :: l, e, h, d => by
    have ih := h.2.2.2.2.ins_chs d
    have h3 := h.2.2.1
    simp only [chs, ins, memB_cons]
    by_cases h1 : d < s.1
    · rw [if_pos h1, (inS_false d s).2 (by omega), h.2.2.2.2.mem_false (by omega)]; rfl
    · by_cases h2 : d < s.2
      · rw [if_neg h1, if_pos h2, (inS_iff d s).2 (by omega)]; rfl
      · rw [if_neg h1, if_neg h2, (inS_false d s).2 (by omega), Bool.not_not]; simpa using ih
def comb (keep : Bool → Bool → Bool) : Nat → List Int → List Int → Bool → Bool → Int → List Sp
  | 0, _, _, _, _, _ => []
  | n + 1, A, B, ia, ib, z =>
    let day := min (A.headD 65537) (B.headD 65537)
    if 65536 < day then [] else
    let A' := if A.headD 65537 = day then A.tail else A
    let ia' := if A.headD 65537 = day then !ia else ia
    let B' := if B.headD 65537 = day then B.tail else B
    let ib' := if B.headD 65537 = day then !ib else ib
    if keep ia' ib' = true ∧ z < 0 then comb keep n A' B' ia' ib' day
    else if keep ia' ib' = false ∧ 0 ≤ z then (z, day) :: comb keep n A' B' ia' ib' (-1)
    else comb keep n A' B' ia' ib' z
theorem ins_lt {f : Bool} {A : List Int} {d : Int} (h : d < A.headD 65537) : ins f A d = f := by
  cases A with
  | nil => rfl
  | cons x A => simp only [List.headD_cons] at h; simp [ins, h]
theorem ins_ge {f : Bool} {A : List Int} {d day : Int} (hd : day ≤ d) (h6 : day ≤ 65536) : ins (if A.headD 65537 = day then !f else f) (if A.headD 65537 = day then A.tail else A) d = ins f A d := by
  by_cases h : A.headD 65537 = day
  · rw [if_pos h, if_pos h]
    cases A with
    | nil => simp only [List.headD_nil] at h; omega
    | cons x A =>
      simp only [List.headD_cons] at h
      simp only [List.tail_cons, ins]
      rw [if_neg (by omega)]
  · rw [if_neg h, if_neg h]
theorem SI.step {A : List Int} {e day : Int} (h : SI e A) (hd : day ≤ A.headD 65537) : SI day (if A.headD 65537 = day then A.tail else A) := by
  by_cases h' : A.headD 65537 = day
  · rw [if_pos h']
    cases A with
    | nil => trivial
    | cons x A =>
      simp only [List.headD_cons] at h'
      rw [← h']; exact h.2.2
  · rw [if_neg h']
    cases A with
    | nil => trivial
    | cons x A =>
      simp only [List.headD_cons] at h' hd
      exact ⟨by omega, h.2⟩
def par (A : List Int) : Bool := A.length % 2 == 1
theorem par_step {A : List Int} {f : Bool} {day : Int} (h : par A = f) (hd : day ≤ 65536) : par (if A.headD 65537 = day then A.tail else A) = (if A.headD 65537 = day then !f else f) := by
  by_cases h' : A.headD 65537 = day
  · rw [if_pos h', if_pos h']
    cases A with
    | nil => simp only [List.headD_nil] at h'; omega
    | cons x A =>
      rw [← h]
      simp only [par, List.length_cons, List.tail_cons]
      rw [Bool.eq_iff_iff]
      simp only [beq_iff_eq, Bool.not_eq_true', beq_eq_false_iff_ne]
      omega
  · rw [if_neg h', if_neg h']; exact h
theorem len_step {A : List Int} {day : Int} : (if A.headD 65537 = day then A.tail else A).length ≤ A.length := by
  split <;> simp
theorem comb_spec {keep : Bool → Bool → Bool} (hff : keep false false = false) : ∀ (n : Nat) (A B : List Int) (ia ib : Bool) (lo z : Int), A.length + B.length ≤ n →
    SI lo A → SI lo B → par A = ia → par B = ib → -1 ≤ lo → (z = -1 ∧ keep ia ib = false ∨ 0 ≤ z ∧ z ≤ lo ∧ keep ia ib = true) →
    Ok (if z < 0 then lo else z - 1) (comb keep n A B ia ib z) ∧
    (∀ d, lo ≤ d → memB d (comb keep n A B ia ib z) = keep (ins ia A d) (ins ib B d)) ∧
    (0 ≤ z → ∀ d, z ≤ d → d < lo → memB d (comb keep n A B ia ib z) = true)
  | 0, A, B, ia, ib, lo, z, hn, _, _, pa, pb, _, hz => by
    have hA : A = [] := List.eq_nil_of_length_eq_zero (by omega)
    have hB : B = [] := List.eq_nil_of_length_eq_zero (by omega)
    subst hA; subst hB
    have h1 : ia = false := by rw [← pa]; rfl
    have h2 : ib = false := by rw [← pb]; rfl
    clear pa pb
    subst h1; subst h2
    refine ⟨trivial, fun d _ => by simp [comb, ins, hff], fun h => ?_⟩
    simp [hff] at hz
    omega
  | n + 1, A, B, ia, ib, lo, z, hn, sa, sb, pa, pb, hlo, hz => by
    rw [comb]
    generalize hday : min (A.headD 65537) (B.headD 65537) = day
    simp only []
    have hda : day ≤ A.headD 65537 := by omega
    have hdb : day ≤ B.headD 65537 := by omega
    by_cases hend : 65536 < day
    · rw [if_pos hend]
      have hA : A = [] := by
        cases A with
        | nil => rfl
        | cons x A => simp only [List.headD_cons] at hda; have := sa.2.1; omega
      have hB : B = [] := by
        cases B with
        | nil => rfl
        | cons x B => simp only [List.headD_cons] at hdb; have := sb.2.1; omega
      subst hA; subst hB
      have h1 : ia = false := by rw [← pa]; rfl
      have h2 : ib = false := by rw [← pb]; rfl
      clear pa pb
      subst h1; subst h2
      refine ⟨trivial, fun d _ => by simp [ins, hff], fun h => ?_⟩
      simp [hff] at hz
      omega
    · rw [if_neg hend]
      have hlt : lo < day := by
        rcases (by omega : day = A.headD 65537 ∨ day = B.headD 65537) with h | h
        · cases A with
          | nil => simp at h; omega
          | cons x A => simp only [List.headD_cons] at h; have := sa.1; omega
        · cases B with
          | nil => simp at h; omega
          | cons x B => simp only [List.headD_cons] at h; have := sb.1; omega
      have hlen : (if A.headD 65537 = day then A.tail else A).length + (if B.headD 65537 = day then B.tail else B).length ≤ n := by
        rcases (by omega : day = A.headD 65537 ∨ day = B.headD 65537) with h | h
        · have h2 := @len_step B day
          rw [if_pos h.symm]
          cases A with
          | nil => simp at h; omega
          | cons x A => simp only [List.tail_cons, List.length_cons] at hn ⊢; omega
        · have h2 := @len_step A day
          rw [if_pos h.symm]
          cases B with
          | nil => simp at h; omega
          | cons x B => simp only [List.tail_cons, List.length_cons] at hn ⊢; omega
      have IH := fun z' => comb_spec hff n _ _ _ _ day z' hlen (sa.step hda) (sb.step hdb) (par_step pa (by omega)) (par_step pb (by omega)) (by omega)
      have la : ∀ d, d < day → ins ia A d = ia := fun d hd => ins_lt (by omega)
      have lb : ∀ d, d < day → ins ib B d = ib := fun d hd => ins_lt (by omega)
      have ga : ∀ d, day ≤ d → _ = ins ia A d := fun d hd => ins_ge (f := ia) (A := A) hd (by omega)
      have gb : ∀ d, day ≤ d → _ = ins ib B d := fun d hd => ins_ge (f := ib) (A := B) hd (by omega)
      generalize (if A.headD 65537 = day then !ia else ia) = ia' at *
      generalize (if B.headD 65537 = day then !ib else ib) = ib' at *
      generalize (if A.headD 65537 = day then A.tail else A) = A' at *
      generalize (if B.headD 65537 = day then B.tail else B) = B' at *
      cases hk : keep ia' ib' with
      | true =>
        by_cases hz0 : z < 0
        · rw [if_pos (show true = true ∧ z < 0 from ⟨rfl, hz0⟩)]
          obtain ⟨i1, i2, i3⟩ := IH day (Or.inr ⟨by omega, by omega, hk⟩)
          rw [if_neg (by omega : ¬ day < 0)] at i1
          simp only [if_pos hz0]
          have hkf : keep ia ib = false := by rcases hz with h | h; exact h.2; omega
          refine ⟨i1.mono (by omega), fun d hd => ?_, fun h => by omega⟩
          by_cases hdd : d < day
          · rw [la d hdd, lb d hdd, hkf]; exact i1.mem_false (by omega)
          · rw [i2 d (by omega), ga d (by omega), gb d (by omega)]
        · rw [if_neg (show ¬ (true = true ∧ z < 0) from fun h => hz0 h.2), if_neg (show ¬ (true = false ∧ 0 ≤ z) from fun h => Bool.noConfusion h.1)]
          obtain ⟨i1, i2, i3⟩ := IH z (Or.inr ⟨by omega, by omega, hk⟩)
          have hkt : keep ia ib = true := by rcases hz with h | h; omega; exact h.2.2
          rw [if_neg hz0] at i1 ⊢
          refine ⟨i1, fun d hd => ?_, fun _ d h1 h2 => i3 (by omega) d h1 (by omega)⟩
          by_cases hdd : d < day
          · rw [la d hdd, lb d hdd, hkt]; exact i3 (by omega) d (by omega) hdd
          · rw [i2 d (by omega), ga d (by omega), gb d (by omega)]
      | false =>
        rw [if_neg (show ¬ (false = true ∧ z < 0) from fun h => Bool.noConfusion h.1)]
        obtain ⟨i1, i2, i3⟩ := IH (-1) (Or.inl ⟨rfl, hk⟩)
        rw [if_pos (by omega : (-1 : Int) < 0)] at i1
        by_cases hz0 : z < 0
        · rw [if_neg (show ¬ (false = false ∧ 0 ≤ z) from fun h => by omega)]
          have hkf : keep ia ib = false := by rcases hz with h | h; exact h.2; omega
          obtain rfl : z = -1 := by omega
          rw [if_pos hz0]
          refine ⟨i1.mono (by omega), fun d hd => ?_, fun h => by omega⟩
          by_cases hdd : d < day
          · rw [la d hdd, lb d hdd, hkf]; exact i1.mem_false (by omega)
          · rw [i2 d (by omega), ga d (by omega), gb d (by omega)]
        · rw [if_pos (show false = false ∧ 0 ≤ z from ⟨rfl, by omega⟩)]
          have hkt : keep ia ib = true := by rcases hz with h | h; omega; exact h.2.2
          rw [if_neg hz0]
          refine ⟨⟨by omega, by omega, by show z < day; omega, by show day ≤ 65536; omega, i1⟩, fun d hd => ?_, fun _ d h1 h2 => ?_⟩
          · rw [memB_cons]
            by_cases hdd : d < day
            · rw [la d hdd, lb d hdd, hkt, (inS_iff d (z, day)).2 ⟨by show z ≤ d; omega, hdd⟩]; rfl
            · rw [(inS_false d (z, day)).2 (by show ¬ (z ≤ d ∧ d < day); omega), Bool.false_or, i2 d (by omega), ga d (by omega), gb d (by omega)]
          · rw [memB_cons, (inS_iff d (z, day)).2 ⟨h1, by show d < day; omega⟩]; rfl
/-- What combine returns for sets. -/
def combS (keep : Bool → Bool → Bool) (a b : List Sp) : List Sp := comb keep ((chs a).length + (chs b).length) (chs a) (chs b) false false (-1)
theorem combS_spec {keep : Bool → Bool → Bool} (hff : keep false false = false) {a b : List Sp} (ha : Ok (-1) a) (hb : Ok (-1) b) :
    Ok (-1) (combS keep a b) ∧ ∀ d, memB d (combS keep a b) = keep (memB d a) (memB d b) := by
  have pr : ∀ l : List Sp, par (chs l) = false := fun l => by rw [par, chs_len]; simp
  obtain ⟨h1, h2, _⟩ := comb_spec hff ((chs a).length + (chs b).length) (chs a) (chs b) false false (-1) (-1) (Nat.le_refl _) ha.si hb.si (pr a) (pr b) (by omega) (.inl ⟨rfl, hff⟩)
  refine ⟨h1, fun d => ?_⟩
  by_cases hd : -1 ≤ d
  · rw [combS, h2 d hd, ha.ins_chs, hb.ins_chs]
  · rw [ha.mem_false (by omega), hb.mem_false (by omega), hff]
    exact h1.mem_false (by simp; omega)

/-! ### Bridge -/
def bridgeStep (days : Int) (out : List Sp) (s : Sp) : List Sp :=
  match out.getLast? with
  | none => out ++ [s]
  | some q => if s.1 - q.2 ≤ days then out.dropLast ++ [(q.1, s.2)] else out ++ [s]
def bridgeS (days : Int) (l : List Sp) : List Sp := l.foldl (bridgeStep days) []
theorem bridgeStep_nil {days : Int} {s : Sp} : bridgeStep days [] s = [s] := rfl
theorem bridgeStep_in {days : Int} {p : List Sp} {q s : Sp} (h2 : s.1 - q.2 ≤ days) : bridgeStep days (p ++ [q]) s = p ++ [(q.1, s.2)] := by
  rw [bridgeStep]; simp [h2]
theorem bridgeStep_out {days : Int} {p : List Sp} {q s : Sp} (h2 : ¬ s.1 - q.2 ≤ days) : bridgeStep days (p ++ [q]) s = p ++ [q] ++ [s] := by
  rw [bridgeStep]; simp [h2]
/-- The days of the short gaps; e: where the span ahead ends. -/
def gapB (days : Int) (d : Int) : Int → List Sp → Bool
  | _, [] => false
  | e, s :: l => (decide (s.1 - e ≤ days) && inS d (e, s.1)) || gapB days d s.2 l
def gapsB (days : Int) (d : Int) : List Sp → Bool
  | [] => false
  | s :: l => gapB days d s.2 l
theorem bridge_go (days : Int) : ∀ (l : List Sp) (p : List Sp) (q : Sp), Ok (-1) (p ++ [q]) → Ok q.2 l →
    Ok (-1) (l.foldl (bridgeStep days) (p ++ [q])) ∧ ∀ d, memB d (l.foldl (bridgeStep days) (p ++ [q])) = (memB d (p ++ [q]) || memB d l || gapB days d q.2 l)
  | [], p, q, h, _ => ⟨h, fun d => by simp [gapB]⟩
  | s :: l, p, q, h, hl => by
    obtain ⟨a1, a2, a3, a4, a5⟩ := hl
    have hq := h.last
    rw [List.foldl_cons]
    by_cases h2 : s.1 - q.2 ≤ days
    · rw [bridgeStep_in h2]
      obtain ⟨i1, i2⟩ := bridge_go days l p (q.1, s.2) (h.relast (by omega) a4) a5
      refine ⟨i1, fun d => ?_⟩
      rw [i2]
      simp only [memB_append, memB_cons, memB_nil, Bool.or_false, gapB, h2, decide_true, Bool.true_and]
      rw [Bool.eq_iff_iff]
      simp only [Bool.or_eq_true, inS_iff]
      constructor
      · rintro (((h | h) | h) | h)
        · exact .inl (.inl (.inl h))
        · by_cases h3 : d < q.2
          · exact .inl (.inl (.inr ⟨h.1, h3⟩))
          · by_cases h4 : d < s.1
            · exact .inr (.inl ⟨by show q.2 ≤ d; omega, h4⟩)
            · exact .inl (.inr (.inl ⟨by omega, h.2⟩))
        · exact .inl (.inr (.inr h))
        · exact .inr (.inr h)
      · rintro (((h | h) | (h | h)) | (h | h))
        · exact .inl (.inl (.inl h))
        · exact .inl (.inl (.inr ⟨h.1, by show d < s.2; omega⟩))
        · exact .inl (.inl (.inr ⟨by show q.1 ≤ d; omega, h.2⟩))
        · exact .inl (.inr h)
        · exact .inl (.inl (.inr ⟨by have := h.1; show q.1 ≤ d; omega, by have := h.2; show d < s.2; omega⟩))
        · exact .inr h
    · rw [bridgeStep_out h2]
      obtain ⟨i1, i2⟩ := bridge_go days l (p ++ [q]) s (Ok.snoc.2 ⟨h, a1, a2, a3, a4⟩) a5
      refine ⟨i1, fun d => ?_⟩
      rw [i2]
      simp only [memB_append, memB_cons, memB_nil, Bool.or_false, gapB, h2, decide_false, Bool.false_and, Bool.false_or, Bool.or_assoc]
theorem bridgeS_spec (days : Int) {l : List Sp} (h : Ok (-1) l) : Ok (-1) (bridgeS days l) ∧ ∀ d, memB d (bridgeS days l) = (memB d l || gapsB days d l) := by
  cases l with
  | nil => exact ⟨trivial, fun d => rfl⟩
  | cons s l =>
    have := bridge_go days l [] s ⟨h.1, h.2.1, h.2.2.1, h.2.2.2.1, trivial⟩ h.2.2.2.2
    simpa [bridgeS, bridgeStep_nil, gapsB] using this

/-! ### Counting -/
def cnt (f : Int → Bool) : Nat → Int
  | 0 => 0
  | n + 1 => cnt f n + if f n then 1 else 0
theorem cnt_congr {f g : Int → Bool} : ∀ {n : Nat}, (∀ d : Int, 0 ≤ d → d < n → f d = g d) → cnt f n = cnt g n
  | 0, _ => rfl
  | n + 1, h => by rw [cnt, cnt, cnt_congr fun d h1 h2 => h d h1 (by omega), h n (by omega) (by omega)]
theorem cnt_false : ∀ (n : Nat), cnt (fun _ => false) n = 0
  | 0 => rfl
  | n + 1 => by rw [cnt, cnt_false n]; rfl
theorem cnt_or_and (f g : Int → Bool) : ∀ (n : Nat), cnt (fun d => f d || g d) n + cnt (fun d => f d && g d) n = cnt f n + cnt g n
  | 0 => rfl
  | n + 1 => by
    have := cnt_or_and f g n
    simp only [cnt]
    rcases Bool.eq_false_or_eq_true (f n) with hf | hf <;> rcases Bool.eq_false_or_eq_true (g n) with hg | hg <;> simp [hf, hg] <;> omega
theorem cnt_nonneg (f : Int → Bool) : ∀ (n : Nat), 0 ≤ cnt f n ∧ cnt f n ≤ n
  | 0 => by simp [cnt]
  | n + 1 => by have := cnt_nonneg f n; rw [cnt]; split <;> omega
theorem cnt_mono (f : Int → Bool) : ∀ (n m : Nat), n ≤ m → cnt f n ≤ cnt f m
  | n, 0, h => by obtain rfl : n = 0 := by omega
                  exact Int.le_refl _
  | n, m + 1, h => by
    by_cases e : n = m + 1
    · subst e; exact Int.le_refl _
    · have := cnt_mono f n m (by omega); rw [cnt]; split <;> omega
theorem cnt_zero_iff (f : Int → Bool) : ∀ (n : Nat), cnt f n = 0 ↔ ∀ d : Int, 0 ≤ d → d < n → f d = false
  | 0 => by simp [cnt]; intro d h1 h2; omega
  | n + 1 => by
    have := cnt_nonneg f n
    rw [cnt]
    constructor
    · intro h d h1 h2
      have h3 : f n = false := by cases hf : f n <;> simp [hf] at h ⊢; omega
      have h4 : cnt f n = 0 := by rw [h3] at h; simpa using h
      by_cases e : d = n
      · rw [e]; exact h3
      · exact (cnt_zero_iff f n).1 h4 d h1 (by omega)
    · intro h
      rw [(cnt_zero_iff f n).2 fun d h1 h2 => h d h1 (by omega), h n (by omega) (by omega)]; rfl
theorem cnt_in {s : Sp} (h0 : 0 ≤ s.1) (h1 : s.1 ≤ s.2) : ∀ (n : Nat), cnt (fun d => inS d s) n = if s.1 < n then min s.2 n - s.1 else 0
  | 0 => by rw [cnt, if_neg (by simp; omega)]
  | n + 1 => by
    rw [cnt, cnt_in h0 h1 n]
    have hi := inS_iff n s
    rw [show ((n + 1 : Nat) : Int) = (n : Int) + 1 from by omega]
    generalize (n : Int) = m at *
    by_cases c : inS m s = true
    · rw [if_pos c]; rw [hi] at c
      rw [if_pos (by omega : s.1 < m + 1)]
      by_cases a : s.1 < m
      · rw [if_pos a]; omega
      · rw [if_neg a]; omega
    · rw [if_neg c]; rw [hi] at c
      by_cases a : s.1 < m
      · rw [if_pos a, if_pos (by omega : s.1 < m + 1)]; omega
      · rw [if_neg a]
        by_cases b : s.1 < m + 1
        · rw [if_pos b]; omega
        · rw [if_neg b]; rfl
def beforeStep (day : Int) (n : Int) (s : Sp) : Int := if s.1 < day then n + (min s.2 day - s.1) else n
def beforeS (l : List Sp) (day : Int) : Int := l.foldl (beforeStep day) 0
theorem before_acc (day : Int) : ∀ (l : List Sp) (n : Int), l.foldl (beforeStep day) n = n + l.foldl (beforeStep day) 0
  | [], n => by simp
  | s :: l, n => by
    rw [List.foldl_cons, List.foldl_cons, before_acc day l (beforeStep day n s), before_acc day l (beforeStep day 0 s)]
    unfold beforeStep
    by_cases h : s.1 < day <;> simp only [h, ↓reduceIte] <;> omega
theorem before_cnt : ∀ {l : List Sp} {e : Int}, Ok e l → ∀ n : Nat, beforeS l n = cnt (fun d => memB d l) n
  | [], _, _, n => by simp only [memB_nil]; rw [cnt_false]; rfl
  | s :: l, e, h, n => by
    have ih := before_cnt h.2.2.2.2 n
    have h1 := cnt_or_and (fun d => inS d s) (fun d => memB d l) n
    have h2 : cnt (fun d => inS d s && memB d l) n = 0 := by
      rw [cnt_zero_iff]
      intro d _ _
      cases hi : inS d s with
      | false => rfl
      | true => rw [inS_iff] at hi; rw [Bool.true_and]; exact h.2.2.2.2.mem_false (by omega)
    have h3 := cnt_in (s := s) h.2.1 (by have := h.2.2.1; omega) n
    simp only [memB_cons]
    rw [show beforeS (s :: l) n = (if s.1 < (n : Int) then min s.2 n - s.1 else 0) + beforeS l n from ?_]
    · omega
    · rw [beforeS, List.foldl_cons, before_acc]; unfold beforeS beforeStep; by_cases h : s.1 < (n : Int) <;> simp only [h, ↓reduceIte] <;> omega
theorem before_neg {l : List Sp} {e day : Int} (h : Ok e l) (hd : day ≤ 0) : beforeS l day = 0 := by
  induction l generalizing e with
  | nil => rfl
  | cons s l ih =>
    rw [beforeS, List.foldl_cons, before_acc, show l.foldl (beforeStep day) 0 = beforeS l day from rfl, ih h.2.2.2.2]
    unfold beforeStep; rw [if_neg (by have := h.2.1; omega)]; rfl
theorem before_big {l : List Sp} {e day : Int} (h : Ok e l) (hd : 65536 ≤ day) : beforeS l day = beforeS l 65536 := by
  induction l generalizing e with
  | nil => rfl
  | cons s l ih =>
    rw [beforeS, beforeS, List.foldl_cons, List.foldl_cons, before_acc, before_acc 65536, show l.foldl (beforeStep day) 0 = beforeS l day from rfl, ih h.2.2.2.2]
    have h1 := h.2.2.1; have h2 := h.2.2.2.1
    unfold beforeStep; rw [if_pos (by omega), if_pos (by omega)]
    show _ + beforeS l 65536 = _ + beforeS l 65536
    omega
end Go.Proofs.YtalconpcpegmlaaDoor

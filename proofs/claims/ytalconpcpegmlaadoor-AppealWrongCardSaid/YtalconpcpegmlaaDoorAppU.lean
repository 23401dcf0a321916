/- The other laws of a docket, in plain Lean: filings that are not formed, time, when a case settles, when payments are held. No program in sight. -/
import Derived.Test.YtalconpcpegmlaaDoorAppT
import Derived.Test.YtalconpcpegmlaaDoorSpanAlg
namespace Go.Proofs.YtalconpcpegmlaaDoor
set_option linter.unusedVariables false

/-! ### Filings that are not formed -/
theorem filedP_pre : ∀ (b : List Fl) (d : List Cs × Int) (pre out : List Int), pre.length + out.length + b.length ≤ 1000 → filedP b d (pre ++ out) = ((filedP b d out).1, pre ++ (filedP b d out).2)
  | [], _, _, _, _ => rfl
  | f :: b, d, pre, out, h => by
    simp only [List.length_cons] at h
    simp only [filedP]
    rw [if_pos (by rw [List.length_append]; omega), if_pos (by omega), List.append_assoc]
    exact filedP_pre b _ pre _ (by simp only [List.length_append, List.length_cons, List.length_nil]; omega)
theorem wrong_run {l : List Fl} {k : Nat} {bad : Fl} (hb : formedB bad = false) (hk : k ≤ l.length) (hl : l.length < 1000) :
    dockP (l.take k ++ [bad] ++ l.drop k) = dockP l ∧ runP (l.take k ++ [bad] ++ l.drop k) = (runP l).take k ++ [2] ++ (runP l).drop k := by
  have hlen : (l.take k).length = k := by simp; omega
  have hD := dockP_snoc (l := l.take k) bad (by omega)
  have hf : fileP (dockP (l.take k)) bad = (dockP (l.take k), 2) := by unfold fileP; rw [if_pos hb]
  rw [hf] at hD
  have hr : (runP (l.take k)).length = k := by rw [runP_len, hlen]
  have e1 : filedP (l.drop k) (dockP (l.take k)) (runP (l.take k) ++ [2]) = ((filedP (l.drop k) (dockP (l.take k)) []).1, runP (l.take k) ++ [2] ++ (filedP (l.drop k) (dockP (l.take k)) []).2) := by
    have := filedP_pre (l.drop k) (dockP (l.take k)) (runP (l.take k) ++ [2]) [] (by simp only [List.length_append, List.length_cons, List.length_nil, List.length_drop]; omega)
    rwa [List.append_nil] at this
  have e2 : filedP (l.drop k) (dockP (l.take k)) (runP (l.take k)) = ((filedP (l.drop k) (dockP (l.take k)) []).1, runP (l.take k) ++ (filedP (l.drop k) (dockP (l.take k)) []).2) := by
    have := filedP_pre (l.drop k) (dockP (l.take k)) (runP (l.take k)) [] (by simp only [List.length_nil, List.length_drop]; omega)
    rwa [List.append_nil] at this
  have e3 : filedP (l.take k ++ [bad] ++ l.drop k) ([], 0) [] = filedP (l.drop k) (dockP (l.take k)) (runP (l.take k) ++ [2]) := by
    rw [filedP_append]
    show filedP (l.drop k) (dockP (l.take k ++ [bad])) (runP (l.take k ++ [bad])) = _
    rw [hD.1, hD.2]
  have e4 : filedP l ([], 0) [] = filedP (l.drop k) (dockP (l.take k)) (runP (l.take k)) := by
    conv => lhs; rw [← List.take_append_drop k l]
    rw [filedP_append]; rfl
  have e5 : runP l = runP (l.take k) ++ (filedP (l.drop k) (dockP (l.take k)) []).2 := by
    show (filedP l ([], 0) []).2 = _
    rw [e4, e2]
  constructor
  · show (filedP (l.take k ++ [bad] ++ l.drop k) ([], 0) []).1 = (filedP l ([], 0) []).1
    rw [e3, e1, e4, e2]
  · show (filedP (l.take k ++ [bad] ++ l.drop k) ([], 0) []).2 = _
    rw [e3, e1, e5, List.take_left' hr, List.drop_left' hr]

/-! ### Time, from one day to the next -/
def wantP (x : Cs) (d : Int) : Cs :=
  let y : Cs := if d + 1 ≤ x.due ∨ 4 ≤ x.st then x else if x.st ≠ 3 ∨ x.lv = 3 then { x with st := 4, due := d + 1, hd := false, sn := 0 } else { x with st := 2, due := d + 1 + x.dy, hd := false, sn := 0 }
  if y.hd = true then { y with held := uS x.held [(d + 1, d + 2)] } else y
theorem one_ok {d : Int} (h0 : 0 ≤ d) (h1 : d + 2 ≤ 65536) : Ok (-1) [(d + 1, d + 2)] := ⟨by show (-1 : Int) < d + 1; omega, by show (0 : Int) ≤ d + 1; omega, by show d + 1 < d + 2; omega, h1, trivial⟩
theorem time_step {c : Cs} {last d : Int} (h : CI c last) (h0 : 0 ≤ last) (hl : last ≤ d) (hd : d + 1 ≤ 65535) : onP c (d + 1) = wantP (onP c d) d := by
  have hC := h.pass hl (by omega)
  have hdone := pass_done c d
  have e : onP c (d + 1) = onP (passP c d) (d + 1) := (on_pass c (by omega)).symm
  rw [e]
  have ex : onP c d = { passP c d with held := heldP (passP c d) (d + 1) } := rfl
  rw [ex]
  generalize passP c d = C at hC hdone
  have hdy := hC.dy
  unfold wantP onP
  dsimp only
  by_cases h1 : d + 1 ≤ C.due ∨ 4 ≤ C.st
  · rw [if_pos h1, pass_stop (by omega)]
    dsimp only
    cases hh : C.hd with
    | true =>
      rw [if_pos rfl]
      have hs := hC.hd hh
      have a := heldP_spec (d + 1 + 1) hC (by omega)
      have b := heldP_spec (d + 1) hC (by omega)
      have u := uS_spec b.1 (one_ok (d := d) (by omega) (by omega))
      have : heldP C (d + 1 + 1) = uS (heldP C (d + 1)) [(d + 1, d + 2)] := Ok.ext a.1 u.1 fun x => by
        rw [a.2 x, u.2 x, b.2 x, memB_sing, hh, Bool.true_and, Bool.true_and, Bool.or_assoc]
        congr 1
        rw [Bool.eq_iff_iff, Bool.or_eq_true, inS_iff]
        simp only [decide_eq_true_eq]
        omega
      rw [this]
    | false =>
      rw [if_neg (by decide), heldP_off _ hh, heldP_off _ hh]
  · rw [if_neg h1]
    have hns : ¬ (4 ≤ C.st ∨ d + 1 ≤ C.due) := by omega
    have hdue : C.due + 1 = d + 1 := by omega
    by_cases h3 : C.st = 3
    · by_cases hlv : C.lv = 3
      · have p1 : pass1 C (d + 1) = endP C 4 (d + 1) := by unfold pass1 upholdP; rw [if_neg hns, if_pos h3, if_pos hlv, hdue]
        have p2 : passP C (d + 1) = endP C 4 (d + 1) := by rw [← pass_step hns, p1]; exact pass_stop (.inl (Int.le_refl _))
        rw [if_pos (show C.st ≠ 3 ∨ C.lv = 3 from .inr hlv), p2, heldP_off _ (show (endP C 4 (d + 1)).hd = false from rfl)]
        rfl
      · have p1 : pass1 C (d + 1) = { endP C 2 (d + 1) with due := d + 1 + C.dy } := by unfold pass1 upholdP; rw [if_neg hns, if_pos h3, if_neg hlv, hdue]
        have p2 : passP C (d + 1) = { endP C 2 (d + 1) with due := d + 1 + C.dy } := by rw [← pass_step hns, p1]; exact pass_stop (.inr (by show d + 1 ≤ d + 1 + C.dy; omega))
        rw [if_neg (show ¬ (C.st ≠ 3 ∨ C.lv = 3) from fun e => e.elim (fun e => e h3) hlv), p2, heldP_off _ (show ({ endP C 2 (d + 1) with due := d + 1 + C.dy } : Cs).hd = false from rfl)]
        rfl
    · have p1 : pass1 C (d + 1) = endP C 4 (d + 1) := by unfold pass1; rw [if_neg hns, if_neg h3, hdue]
      have p2 : passP C (d + 1) = endP C 4 (d + 1) := by rw [← pass_step hns, p1]; exact pass_stop (.inl (Int.le_refl _))
      rw [if_pos (show C.st ≠ 3 ∨ C.lv = 3 from .inl h3), p2, heldP_off _ (show (endP C 4 (d + 1)).hd = false from rfl)]
      rfl

/-! ### When a case settles -/
def settleP (c : Cs) : Int := if 4 ≤ c.st then c.due else if c.st = 3 ∧ c.lv ≠ 3 then c.due + 1 + c.dy + 1 else c.due + 1
theorem pass_next {c : Cs} (h : ¬ 4 ≤ c.st) (hdy : 0 ≤ c.dy) : passP c (c.due + 1) = pass1 c (c.due + 1) ∧
    (if c.st = 3 ∧ c.lv ≠ 3 then (pass1 c (c.due + 1)).st = 2 ∧ (pass1 c (c.due + 1)).due = c.due + 1 + c.dy else (pass1 c (c.due + 1)).st = 4 ∧ (pass1 c (c.due + 1)).due = c.due + 1) := by
  have hns : ¬ (4 ≤ c.st ∨ c.due + 1 ≤ c.due) := by omega
  by_cases h3 : c.st = 3
  · by_cases hlv : c.lv = 3
    · have p1 : pass1 c (c.due + 1) = endP c 4 (c.due + 1) := by unfold pass1 upholdP; rw [if_neg hns, if_pos h3, if_pos hlv]
      rw [← pass_step hns, p1, if_neg (fun e => e.2 hlv)]
      exact ⟨pass_stop (.inl (Int.le_refl _)), rfl, rfl⟩
    · have p1 : pass1 c (c.due + 1) = { endP c 2 (c.due + 1) with due := c.due + 1 + c.dy } := by unfold pass1 upholdP; rw [if_neg hns, if_pos h3, if_neg hlv]
      rw [← pass_step hns, p1, if_pos ⟨h3, hlv⟩]
      exact ⟨pass_stop (.inr (by show c.due + 1 ≤ c.due + 1 + c.dy; omega)), rfl, rfl⟩
  · have p1 : pass1 c (c.due + 1) = endP c 4 (c.due + 1) := by unfold pass1; rw [if_neg hns, if_neg h3]
    rw [← pass_step hns, p1, if_neg (fun e => h3 e.1)]
    exact ⟨pass_stop (.inl (Int.le_refl _)), rfl, rfl⟩
theorem settle_step {c : Cs} (h : ¬ 4 ≤ c.st) (hdy : 0 ≤ c.dy) : settleP (passP c (c.due + 1)) = settleP c := by
  obtain ⟨h1, h2⟩ := pass_next h hdy
  rw [h1]
  have hsame := pass1_same c (c.due + 1)
  unfold settleP
  by_cases h3 : c.st = 3 ∧ c.lv ≠ 3
  · rw [if_pos h3] at h2
    rw [if_neg (by omega : ¬ 4 ≤ c.st), if_pos h3, if_neg (by omega), if_neg (by omega), h2.2]
  · rw [if_neg h3] at h2
    rw [if_neg (by omega : ¬ 4 ≤ c.st), if_neg h3, if_pos (by omega), h2.2]
def touchK (k : Nat) (i : Int) (t : List Fl) : Int := t.foldl (fun a f => if f.cs = (k : Int) + 1 then f.day else a) i
theorem touchK_snoc (k : Nat) (i : Int) (t : List Fl) (f : Fl) : touchK k i (t ++ [f]) = if f.cs = (k : Int) + 1 then f.day else touchK k i t := by simp [touchK]
theorem touchK_none {k : Nat} {i : Int} {t : List Fl} : (∀ f ∈ t, f.cs ≠ (k : Int) + 1) → touchK k i t = i := by
  induction t using snoc_ind with
  | h0 => intro _; rfl
  | h1 t f ih => intro h; rw [touchK_snoc, if_neg (h f (by simp))]; exact ih fun g hg => h g (by simp [hg])
theorem touchK_le {k : Nat} {i L : Int} {t : List Fl} : i ≤ L → (∀ f ∈ t, f.day ≤ L) → touchK k i t ≤ L := by
  induction t using snoc_ind with
  | h0 => intro h _; exact h
  | h1 t f ih =>
    intro h hd
    rw [touchK_snoc]
    split
    · exact hd f (by simp)
    · exact ih h fun g hg => hd g (by simp [hg])
structure Touch (k : Nat) (t : List Fl) (c : Cs) : Prop where
  fin : 4 ≤ c.st → c.due ≤ touchK k c.op t
  st2 : c.st = 2 → c.due ≤ touchK k c.op t + 400
  st3 : c.st = 3 → c.due ≤ touchK k c.op t + 365
theorem touch (l : List Fl) (hl : l.length ≤ 1000) (k : Nat) (c : Cs) (h : (dockP l).1[k]? = some c) : Touch k (takenP l) c := by
  refine case_ind Touch ?_ ?_ ?_ l hl k c h
  · intro t f k hf hs hn
    have h0 := cs_zero hf hs
    have ht : touchK k (openedP f).op (t ++ [f]) = f.day := by
      rw [touchK_snoc, if_neg (by omega), touchK_none hn]
      unfold openedP; split <;> rfl
    rw [show Touch k (t ++ [f]) (openedP f) ↔ Touch k (t ++ [f]) (openedP f) from Iff.rfl]
    cases kinds hf with
    | elect hk =>
      have e : openedP f = ⟨true, 1, f.day, f.n, 1, 0, f.un, false, 0, []⟩ := by unfold openedP; rw [if_pos hk]
      refine ⟨fun h => ?_, fun h => ?_, fun h => ?_⟩ <;> (rw [e] at h; simp only at h; omega)
    | decide hk hc hn =>
      have e : openedP f = ⟨false, 2, f.day, f.n, 0, 0, f.day + f.n, false, 0, []⟩ := by unfold openedP; rw [if_neg (by omega)]
      refine ⟨fun h => ?_, fun h => ?_, fun h => ?_⟩
      · rw [e] at h; simp only at h; omega
      · rw [ht, e]; simp only; omega
      · rw [e] at h; simp only at h; omega
    | _ => omega
  · intro t f k c hf hc h
    have e : touchK k c.op (t ++ [f]) = touchK k c.op t := by rw [touchK_snoc, if_neg hc]
    exact ⟨by rw [e]; exact h.fin, by rw [e]; exact h.st2, by rw [e]; exact h.st3⟩
  · intro t f k c last hf hci hl hc ht h0 h
    have hC := hci.pass hl (by have := formed_days hf; omega)
    have e : ∀ i, touchK k i (t ++ [f]) = f.day := fun i => by rw [touchK_snoc, if_pos hc]
    have hst := hC.st
    have hdy := hC.dy
    generalize passP c f.day = C at hC ht h0 hst hdy
    suffices hh : (4 ≤ (doP f C).1.st → (doP f C).1.due ≤ f.day) ∧ ((doP f C).1.st = 2 → (doP f C).1.due ≤ f.day + 400) ∧ ((doP f C).1.st = 3 → (doP f C).1.due ≤ f.day + 365) from
      ⟨by rw [e]; exact hh.1, by rw [e]; exact hh.2.1, by rw [e]; exact hh.2.2⟩
    cases kinds hf with
    | elect hk _ _ _ s => omega
    | decide hk _ _ _ s => omega
    | choose hk _ n u s =>
      rw [doP_choose hk] at h0 ⊢
      by_cases hn : f.n > C.dy
      · rw [if_pos hn] at h0; cases h0
      · rw [if_neg hn]; simp only; omega
    | lock hk => rw [doP_close (by omega) (by omega) (by omega)]; exact ⟨fun _ => Int.le_refl _, fun h => by replace h : (4 : Int) = 2 := h; omega, fun h => by replace h : (4 : Int) = 3 := h; omega⟩
    | appeal hk =>
      rw [doP_appeal hk]
      show (4 ≤ (appealP f C).st → (appealP f C).due ≤ f.day) ∧ ((appealP f C).st = 2 → (appealP f C).due ≤ f.day + 400) ∧ ((appealP f C).st = 3 → (appealP f C).due ≤ f.day + 365)
      unfold appealP
      split <;> (simp only; omega)
    | rule hk =>
      rw [doP_rule hk]
      show (4 ≤ (if f.n = 2 then endP C 5 f.day else upholdP C f.day).st → (if f.n = 2 then endP C 5 f.day else upholdP C f.day).due ≤ f.day) ∧ ((if f.n = 2 then endP C 5 f.day else upholdP C f.day).st = 2 → (if f.n = 2 then endP C 5 f.day else upholdP C f.day).due ≤ f.day + 400) ∧ ((if f.n = 2 then endP C 5 f.day else upholdP C f.day).st = 3 → (if f.n = 2 then endP C 5 f.day else upholdP C f.day).due ≤ f.day + 365)
      split
      · exact ⟨fun _ => Int.le_refl _, fun h => by replace h : (5 : Int) = 2 := h; omega, fun h => by replace h : (5 : Int) = 3 := h; omega⟩
      · unfold upholdP
        split
        · exact ⟨fun _ => Int.le_refl _, fun h => by replace h : (4 : Int) = 2 := h; omega, fun h => by replace h : (4 : Int) = 3 := h; omega⟩
        · refine ⟨fun h => ?_, fun _ => ?_, fun h => ?_⟩
          · replace h : (4 : Int) ≤ 2 := h; omega
          · show f.day + C.dy ≤ f.day + 400; omega
          · replace h : (2 : Int) = 3 := h; omega
    | withdraw hk => rw [doP_close (by omega) (by omega) (by omega)]; exact ⟨fun _ => Int.le_refl _, fun h => by replace h : (4 : Int) = 2 := h; omega, fun h => by replace h : (4 : Int) = 3 := h; omega⟩

/-! ### When payments are held -/
def hv (c : Cs) (d : Int) : Bool := memB d c.held || (c.hd && decide (c.sn ≤ d ∧ d < 65536))
theorem held_hv {c : Cs} {last d y : Int} (h : CI c last) (hl : last ≤ 65536) (hy : d < y) : memB d (heldP c y) = hv c d := by
  rw [(heldP_spec y h hl).2 d]
  unfold hv
  congr 2
  rw [Bool.eq_iff_iff]
  simp only [decide_eq_true_eq]
  omega
theorem hv_end {c : Cs} {last d st day : Int} (h : CI c last) (hl : last ≤ 65536) (hd : d < day) (due : Int) : hv { endP c st day with due := due } d = hv c d := by
  rw [← held_hv h hl hd]
  show (memB d (heldP c day) || (false && _)) = _
  rw [Bool.false_and, Bool.or_false]
theorem hv_pass1 {c : Cs} {last d x : Int} (h : CI c last) (hl : last ≤ 65536) (hd : 4 ≤ c.st ∨ d ≤ c.due) : hv (pass1 c x) d = hv c d ∧ (4 ≤ (pass1 c x).st ∨ d ≤ (pass1 c x).due) := by
  have hdy := h.dy
  unfold pass1
  split
  · exact ⟨rfl, hd⟩
  · rename_i hns
    have hdd : d < c.due + 1 := by omega
    split
    · unfold upholdP
      split
      · exact ⟨hv_end h hl hdd (c.due + 1), .inl (Int.le_refl _)⟩
      · exact ⟨hv_end h hl hdd _, .inr (by show d ≤ c.due + 1 + c.dy; omega)⟩
    · exact ⟨hv_end h hl hdd (c.due + 1), .inl (Int.le_refl _)⟩
theorem hv_pass {c : Cs} {last d x : Int} (h : CI c last) (hl : last ≤ x) (hx : x ≤ 65535) (hd : 4 ≤ c.st ∨ d ≤ c.due) : hv (passP c x) d = hv c d := by
  have a := hv_pass1 (x := x) h (by omega) hd
  exact (hv_pass1 (x := x) (h.pass1 hl hx) (by omega) a.2).1.trans a.1
theorem on_hv {c : Cs} {last d x y : Int} (h : CI c last) (hl : last ≤ x) (hxy : x ≤ y) (hy : y ≤ 65535) (hd : d ≤ x) : memB d (onP c y).held = hv (passP c x) d := by
  have hC := h.pass hl (by omega)
  show memB d (heldP (passP c y) (y + 1)) = _
  rw [held_hv (h.pass (by omega) hy) (by omega) (by omega), ← pass_trans c hxy]
  exact hv_pass hC (by omega) hy (by have := pass_done c x; omega)
theorem hv_act {f : Fl} {c : Cs} {d : Int} (hf : formedB f = true) (h : CI c f.day) (hs : c.st = stP f.kind) (h0 : (doP f c).2 = 0) (hd : d < f.day) : hv (doP f c).1 d = hv c d := by
  have hday := formed_days hf
  have hst := h.st
  cases kinds hf with
  | elect hk _ _ _ s => omega
  | decide hk _ _ _ s => omega
  | choose hk _ n u s =>
    rw [doP_choose hk] at h0 ⊢
    by_cases hn : f.n > c.dy
    · rw [if_pos hn] at h0; cases h0
    · rw [if_neg hn]; rfl
  | lock hk => rw [doP_close (by omega) (by omega) (by omega)]; exact hv_end h (by omega) hd _
  | appeal hk _ _ _ s =>
    rw [doP_appeal hk]
    show hv (appealP f c) d = _
    have hhd : c.hd = false := by
      cases e : c.hd with
      | false => rfl
      | true => have := (h.hd e).1; omega
    unfold appealP
    split
    · unfold hv
      dsimp only
      rw [hhd, Bool.false_and, Bool.true_and, decide_eq_false (by omega)]
    · rfl
  | rule hk =>
    rw [doP_rule hk]
    show hv (if f.n = 2 then endP c 5 f.day else upholdP c f.day) d = _
    split
    · exact hv_end h (by omega) hd _
    · unfold upholdP
      split
      · exact hv_end h (by omega) hd _
      · exact hv_end h (by omega) hd _
  | withdraw hk => rw [doP_close (by omega) (by omega) (by omega)]; exact hv_end h (by omega) hd _
def heldAt (D : List Cs × Int) (k : Nat) (d x : Int) : Bool := match D.1[k]? with | none => false | some c => memB d (onP c x).held
theorem heldAt_const {D : List Cs × Int} (h : DI D) (k : Nat) {d x y : Int} (hl : D.2 ≤ x) (hxy : x ≤ y) (hy : y ≤ 65535) (hd : d ≤ x) : heldAt D k d y = heldAt D k d x := by
  unfold heldAt
  cases e : D.1[k]? with
  | none => rfl
  | some c => exact (on_hv (h.at e) hl hxy hy hd).trans (on_hv (h.at e) hl (Int.le_refl _) (by omega) hd).symm
theorem heldAt_some {D : List Cs × Int} {k : Nat} {c : Cs} {d x : Int} (h : D.1[k]? = some c) : heldAt D k d x = memB d (onP c x).held := by unfold heldAt; rw [h]
theorem heldAt_none {D : List Cs × Int} {k : Nat} {d x : Int} (h : D.1[k]? = none) : heldAt D k d x = false := by unfold heldAt; rw [h]
theorem heldAt_file {D : List Cs × Int} (h : DI D) (f : Fl) (h0 : (fileP D f).2 = 0) (k : Nat) {d : Int} (hd : d < f.day) : (fileP D f).1.2 = f.day ∧ D.2 ≤ f.day ∧ f.day ≤ 65535 ∧ heldAt (fileP D f).1 k d f.day = heldAt D k d f.day := by
  have r := fileR D f
  generalize fileP D f = x at r h0
  cases r with
  | opens hf hl hs hn =>
    have hday := formed_days hf
    refine ⟨rfl, hl, by omega, ?_⟩
    by_cases hk : k < D.1.length
    · have e : (D.1 ++ [openedP f])[k]? = D.1[k]? := by rw [List.getElem?_append_left hk]
      unfold heldAt
      simp only [e]
    · have e0 : D.1[k]? = none := List.getElem?_eq_none (by omega)
      rw [heldAt_none e0]
      by_cases hk2 : k = D.1.length
      · have e : (D.1 ++ [openedP f])[k]? = some (openedP f) := by rw [hk2]; simp
        rw [heldAt_some (D := (D.1 ++ [openedP f], f.day)) e, on_opened hf hs]
        unfold openedP; split <;> rfl
      · exact heldAt_none (D := (D.1 ++ [openedP f], f.day)) (List.getElem?_eq_none (by simp only [List.length_append, List.length_cons, List.length_nil]; omega))
  | act c0 hf hl hs hn ht h0' =>
    have hday := formed_days hf
    refine ⟨rfl, hl, by omega, ?_⟩
    by_cases hk : (f.cs - 1).toNat = k
    · have hlt := (List.getElem?_eq_some_iff.1 hn).1
      rw [hk] at hn hlt
      have e : (D.1.set (f.cs - 1).toNat (doP f (passP c0 f.day)).1)[k]? = some (doP f (passP c0 f.day)).1 := by rw [hk, List.getElem?_set_self hlt]
      rw [heldAt_some (D := (D.1.set (f.cs - 1).toNat (doP f (passP c0 f.day)).1, f.day)) e, heldAt_some hn]
      have hci := (h.at hn).pass hl (by omega)
      have hact := CI.act hf hci ht h0'
      rw [on_hv hact (Int.le_refl _) (Int.le_refl _) (by omega) (by omega), on_hv (h.at hn) hl (Int.le_refl _) (by omega) (by omega),
        pass_stop (act_done hf hci (pass_done c0 f.day) ht h0')]
      exact hv_act hf hci ht h0' hd
    · have e : (D.1.set (f.cs - 1).toNat (doP f (passP c0 f.day)).1)[k]? = D.1[k]? := List.getElem?_set_ne hk
      unfold heldAt
      simp only [e]
  | _ => cases h0
theorem runP_snoc_zero {l : List Fl} {f : Fl} (hl : l.length < 1000) (h : ∀ e ∈ runP (l ++ [f]), e = 0) : (∀ e ∈ runP l, e = 0) ∧ (fileP (dockP l) f).2 = 0 := by
  rw [(dockP_snoc f hl).2] at h
  exact ⟨fun e he => h e (by simp [he]), h _ (by simp)⟩
theorem heldAt_later {t1 : List Fl} {d : Int} (h1 : (dockP t1).2 ≤ d) (hd : d ≤ 65535) (k : Nat) : ∀ t2 : List Fl, (t1 ++ t2).length ≤ 1000 → (∀ f ∈ t2, d < f.day) → (∀ e ∈ runP (t1 ++ t2), e = 0) →
    heldAt (dockP (t1 ++ t2)) k d (max d (dockP (t1 ++ t2)).2) = heldAt (dockP t1) k d d := by
  intro t2
  induction t2 using snoc_ind with
  | h0 => intro _ _ _; rw [List.append_nil, Int.max_eq_left h1]
  | h1 t2 f ih =>
    intro hl hf hr
    rw [← List.append_assoc] at hl hr ⊢
    simp only [List.length_append, List.length_cons, List.length_nil] at hl
    have hz := runP_snoc_zero (by simp only [List.length_append]; omega) hr
    replace ih := ih (by simp only [List.length_append]; omega) (fun g hg => hf g (by simp [hg])) hz.1
    have hfd := hf f (by simp)
    have hD := DI.dock (t1 ++ t2)
    obtain ⟨e1, e2, e3, e4⟩ := heldAt_file hD f hz.2 k hfd
    rw [(dockP_snoc f (by simp only [List.length_append]; omega)).1, e1, Int.max_eq_right (by omega), e4, ← ih]
    exact heldAt_const hD k (by omega) (by omega) (by omega) (by omega)
theorem heldAt_now {D : List Cs × Int} (h : DI D) (k : Nat) {d : Int} (hl : D.2 ≤ d) (hd : d ≤ 65535) (h0 : 0 ≤ d) :
    heldAt D k d d = match D.1[k]? with | none => false | some c => decide ((onP c d).st = 3) && (onP c d).hd := by
  unfold heldAt
  cases e : D.1[k]? with
  | none => rfl
  | some c =>
    have hC := (h.at e).pass hl hd
    show memB d (onP c d).held = (decide ((passP c d).st = 3) && (passP c d).hd)
    rw [on_hv (h.at e) hl (Int.le_refl _) hd (Int.le_refl _)]
    unfold hv
    have hp : memB d (passP c d).held = false := by
      cases hm : memB d (passP c d).held with
      | false => rfl
      | true => have := hC.past d hm; omega
    rw [hp, Bool.false_or]
    cases hh : (passP c d).hd with
    | false => simp
    | true =>
      have := hC.hd hh
      rw [Bool.true_and, Bool.and_true, Bool.eq_iff_iff]
      simp only [decide_eq_true_eq]
      omega
/-- The filings up to a day are the first ones. -/
theorem split_day {t : List Fl} (d : Int) (h : t.Pairwise (fun a b => a.day ≤ b.day)) : ∃ t2, t = t.filter (fun f => decide (f.day ≤ d)) ++ t2 ∧ ∀ f ∈ t2, d < f.day := by
  induction t with
  | nil => exact ⟨[], rfl, by simp⟩
  | cons f t ih =>
    obtain ⟨h1, h2⟩ := List.pairwise_cons.1 h
    by_cases hf : f.day ≤ d
    · obtain ⟨t2, e, h3⟩ := ih h2
      refine ⟨t2, ?_, h3⟩
      rw [List.filter_cons_of_pos (by simpa using hf), List.cons_append, ← e]
    · refine ⟨f :: t, ?_, fun g hg => ?_⟩
      · have : (f :: t).filter (fun f => decide (f.day ≤ d)) = [] := by
          rw [List.filter_eq_nil_iff]
          intro g hg
          rcases List.mem_cons.1 hg with rfl | hg
          · simpa using hf
          · have := h1 g hg; simp only [decide_eq_true_eq]; omega
        rw [this, List.nil_append]
      · rcases List.mem_cons.1 hg with rfl | hg
        · omega
        · have := h1 g hg; omega
end Go.Proofs.YtalconpcpegmlaaDoor

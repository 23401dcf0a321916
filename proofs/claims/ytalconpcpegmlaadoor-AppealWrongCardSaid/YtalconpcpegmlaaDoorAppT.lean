import Derived.Test.YtalconpcpegmlaaDoorAppL
/- The docket in plain Lean: what holds of it behind any filings; what time does. No program in sight. -/
namespace Go.Proofs.YtalconpcpegmlaaDoor
set_option linter.unusedVariables false

theorem filedP_append : ∀ (a b : List Fl) (d : List Cs × Int) (out : List Int), filedP (a ++ b) d out = filedP b (filedP a d out).1 (filedP a d out).2
  | [], _, _, _ => rfl
  | f :: a, b, d, out => by
    simp only [List.cons_append, filedP]
    split
    · exact filedP_append a b _ _
    · exact filedP_append a b _ _
theorem filedP_len : ∀ (l : List Fl) (d : List Cs × Int) (out : List Int), (filedP l d out).2.length = out.length + l.length
  | [], _, _ => rfl
  | f :: l, d, out => by
    simp only [filedP]
    split
    · rw [filedP_len l]; simp only [List.length_append, List.length_cons, List.length_nil]; omega
    · rw [filedP_len l]; simp only [List.length_append, List.length_cons, List.length_nil]; omega
theorem runP_len (l : List Fl) : (runP l).length = l.length := by unfold runP; rw [filedP_len]; simp
theorem dockP_snoc {l : List Fl} (f : Fl) (h : l.length < 1000) : dockP (l ++ [f]) = (fileP (dockP l) f).1 ∧ runP (l ++ [f]) = runP l ++ [(fileP (dockP l) f).2] := by
  unfold dockP runP
  rw [filedP_append]
  simp only [filedP]
  rw [if_pos (by rw [filedP_len]; simpa using h)]
  exact ⟨rfl, rfl⟩
theorem runP_append (a b : List Fl) : ∃ r, runP (a ++ b) = runP a ++ r ∧ r.length = b.length := by
  have key : ∀ (b : List Fl) (d : List Cs × Int) (out : List Int), ∃ r, (filedP b d out).2 = out ++ r ∧ r.length = b.length := by
    intro b
    induction b with
    | nil => intro d out; exact ⟨[], by simp [filedP], rfl⟩
    | cons f b ih =>
      intro d out
      simp only [filedP]
      split
      · obtain ⟨r, h1, h2⟩ := ih (fileP d f).1 (out ++ [(fileP d f).2])
        exact ⟨(fileP d f).2 :: r, by rw [h1]; simp, by simp [h2]⟩
      · obtain ⟨r, h1, h2⟩ := ih d (out ++ [5])
        exact ⟨5 :: r, by rw [h1]; simp, by simp [h2]⟩
  unfold runP
  rw [filedP_append]
  exact key b _ _

/-! ### What holds of every case -/
structure CI (c : Cs) (last : Int) : Prop where
  st : 1 ≤ c.st ∧ c.st ≤ 5
  dy : 1 ≤ c.dy ∧ c.dy ≤ 400
  lv : 0 ≤ c.lv ∧ c.lv ≤ 3
  due : 0 ≤ c.due ∧ c.due ≤ 66000
  hd : c.hd = true → c.st = 3 ∧ 0 ≤ c.sn ∧ c.sn ≤ last
  sn : c.hd = false → c.sn = 0
  ok : Ok (-1) c.held
  lv2 : c.st = 2 → c.lv ≤ 2
  lv3 : c.st = 3 → 1 ≤ c.lv
  el : c.el = true → (c.st = 1 ∨ c.st = 4) ∧ c.lv = 0 ∧ c.hd = false ∧ c.held = [] ∧ 1 ≤ c.ch ∧ c.ch ≤ c.dy
  dc : c.el = false → c.st ≠ 1 ∧ c.ch = 0
  past : ∀ d, memB d c.held = true → d < last
  op : 0 ≤ c.op ∧ c.op ≤ last ∧ c.op ≤ c.due
theorem CI.mono {c : Cs} {a b : Int} (h : CI c a) (hb : a ≤ b) : CI c b :=
  ⟨h.st, h.dy, h.lv, h.due, fun e => by have := h.hd e; omega, h.sn, h.ok, h.lv2, h.lv3, h.el, h.dc, fun d hd => by have := h.past d hd; omega, by have := h.op; omega⟩
theorem memB_sing (d : Int) (s : Sp) : memB d [s] = inS d s := by simp [memB]
theorem heldP_spec {c : Cs} {last : Int} (day : Int) (h : CI c last) (hl : last ≤ 65536) :
    Ok (-1) (heldP c day) ∧ ∀ d, memB d (heldP c day) = (memB d c.held || (c.hd && decide (c.sn ≤ d ∧ d < day ∧ d < 65536))) := by
  unfold heldP
  cases hh : c.hd with
  | false => rw [if_neg (by decide)]; exact ⟨h.ok, fun d => by simp⟩
  | true =>
    rw [if_pos rfl]
    have hc := h.hd hh
    obtain ⟨h1, h2⟩ := makeV_spec (right_snoc (a := c.sn) (b := max (min day 65536) c.sn) h.ok hc.2.1 (by omega) (by omega))
    refine ⟨h1, fun d => ?_⟩
    rw [h2 d, memB_append, memB_sing, Bool.true_and]
    congr 1
    rw [Bool.eq_iff_iff, inS_iff]
    simp only [decide_eq_true_eq]
    omega
theorem heldP_off {c : Cs} (day : Int) (h : c.hd = false) : heldP c day = c.held := by unfold heldP; rw [if_neg (by rw [h]; decide)]
theorem CI.ended {c : Cs} {last last' st day due : Int} (h : CI c last) (hl : last ≤ last') (hl2 : last' ≤ 65535) (hd : day ≤ last') (hs : st = 2 ∨ st = 4 ∨ st = 5) (he : c.el = true → st = 4)
    (h2 : st = 2 → c.lv ≤ 2) (hdu : c.op ≤ due ∧ due ≤ 66000) : CI { endP c st day with due := due } last' where
  st := by show 1 ≤ st ∧ st ≤ 5; omega
  dy := h.dy
  lv := h.lv
  due := by have := h.op; show 0 ≤ due ∧ due ≤ 66000; omega
  hd := fun e => by cases e
  sn := fun _ => rfl
  ok := (heldP_spec day h (by omega)).1
  lv2 := h2
  lv3 := fun e => by replace e : st = 3 := e; omega
  el := fun e => by
    have := h.el e
    exact ⟨.inr (he e), this.2.1, rfl, (heldP_off day this.2.2.1).trans this.2.2.2.1, this.2.2.2.2⟩
  dc := fun e => ⟨by show st ≠ 1; omega, (h.dc e).2⟩
  past := fun d e => by
    replace e : memB d (heldP c day) = true := e
    rw [(heldP_spec day h (by omega)).2 d, Bool.or_eq_true] at e
    rcases e with e | e
    · have := h.past d e; omega
    · simp only [Bool.and_eq_true, decide_eq_true_eq] at e; omega
  op := by have := h.op; show 0 ≤ c.op ∧ c.op ≤ last' ∧ c.op ≤ due; omega
theorem CI.fin {c : Cs} {last last' st day : Int} (h : CI c last) (hl : last ≤ last') (hl2 : last' ≤ 65535) (hd : day ≤ last') (hs : st = 4 ∨ st = 5) (he : c.el = true → st = 4) (hdu : c.op ≤ day) : CI (endP c st day) last' :=
  CI.ended (due := day) h hl hl2 hd (.inr hs) he (fun e => by omega) ⟨hdu, by omega⟩
theorem CI.uphold {c : Cs} {last last' day : Int} (h : CI c last) (hl : last ≤ last') (hl2 : last' ≤ 65535) (hd : day ≤ last') (he : c.el = false) (hdu : c.op ≤ day) : CI (upholdP c day) last' := by
  unfold upholdP
  split
  · exact h.fin hl hl2 hd (.inl rfl) (fun _ => rfl) hdu
  · have := h.dy
    have := h.lv
    exact CI.ended h hl hl2 hd (.inl rfl) (fun e => (by rw [he] at e; cases e)) (fun _ => by omega) (by omega)
theorem CI.notel {c : Cs} {last : Int} (h : CI c last) (hs : c.st = 2 ∨ c.st = 3) : c.el = false := by
  cases e : c.el with
  | false => rfl
  | true => have := (h.el e).1; omega
theorem CI.pass1 {c : Cs} {last day : Int} (h : CI c last) (hl : last ≤ day) (hd : day ≤ 65535) : CI (pass1 c day) day := by
  unfold Go.Proofs.YtalconpcpegmlaaDoor.pass1
  have := h.op
  split
  · exact h.mono hl
  · split
    · rename_i h3
      exact h.uphold hl hd (by omega) (h.notel (.inr h3)) (by omega)
    · exact h.fin hl hd (by omega) (.inl rfl) (fun _ => rfl) (by omega)
theorem CI.pass {c : Cs} {last day : Int} (h : CI c last) (hl : last ≤ day) (hd : day ≤ 65535) : CI (passP c day) day := CI.pass1 (CI.pass1 h hl hd) (Int.le_refl _) hd

/-! ### What time does -/
theorem pass1_same (c : Cs) (day : Int) : (pass1 c day).el = c.el ∧ (pass1 c day).op = c.op ∧ (pass1 c day).dy = c.dy ∧ (pass1 c day).ch = c.ch ∧ (pass1 c day).lv = c.lv := by
  unfold pass1 upholdP
  split
  · exact ⟨rfl, rfl, rfl, rfl, rfl⟩
  · split
    · split <;> exact ⟨rfl, rfl, rfl, rfl, rfl⟩
    · exact ⟨rfl, rfl, rfl, rfl, rfl⟩
theorem pass_same (c : Cs) (day : Int) : (passP c day).el = c.el ∧ (passP c day).op = c.op ∧ (passP c day).dy = c.dy ∧ (passP c day).ch = c.ch ∧ (passP c day).lv = c.lv := by
  have a := pass1_same c day
  have b := pass1_same (pass1 c day) day
  unfold passP
  exact ⟨b.1.trans a.1, b.2.1.trans a.2.1, b.2.2.1.trans a.2.2.1, b.2.2.2.1.trans a.2.2.2.1, b.2.2.2.2.trans a.2.2.2.2⟩
theorem pass1_fin {c : Cs} {day : Int} (h : ¬ (4 ≤ c.st ∨ day ≤ c.due)) (h3 : c.st ≠ 3) : (pass1 c day).st = 4 := by unfold pass1; rw [if_neg h, if_neg h3]; rfl
theorem pass_done (c : Cs) (day : Int) : 4 ≤ (passP c day).st ∨ day ≤ (passP c day).due := by
  by_cases h : 4 ≤ c.st ∨ day ≤ c.due
  · rw [pass_stop h]; exact h
  · rw [← pass_step h]
    by_cases h1 : 4 ≤ (pass1 c day).st ∨ day ≤ (pass1 c day).due
    · rw [pass_stop h1]; exact h1
    · rw [← pass_step h1]
      have h2 : (pass1 (pass1 c day) day).st = 4 := pass1_fin h1 (by rcases pass1_st h with e | e <;> omega)
      rw [pass_stop (.inl (by omega))]
      exact .inl (by omega)
theorem pass1_day {c : Cs} {a b : Int} (ha : ¬ (4 ≤ c.st ∨ a ≤ c.due)) (hb : a ≤ b) : pass1 c a = pass1 c b := by
  unfold pass1; rw [if_neg ha, if_neg (show ¬ (4 ≤ c.st ∨ b ≤ c.due) by omega)]
theorem pass_trans (c : Cs) {a b : Int} (hb : a ≤ b) : passP (passP c a) b = passP c b := by
  by_cases h : 4 ≤ c.st ∨ a ≤ c.due
  · rw [pass_stop h]
  · have e := pass1_day h hb
    rw [← pass_step h, ← pass_step (c := c) (day := b) (by omega), ← e]
    by_cases h1 : 4 ≤ (pass1 c a).st ∨ a ≤ (pass1 c a).due
    · rw [pass_stop h1]
    · have e1 := pass1_day h1 hb
      rw [← pass_step h1, ← pass_step (c := pass1 c a) (day := b) (by omega), ← e1]
      have h2 : (pass1 (pass1 c a) a).st = 4 := pass1_fin h1 (by rcases pass1_st h with e | e <;> omega)
      rw [pass_stop (c := pass1 (pass1 c a) a) (day := a) (.inl (by omega)), pass_stop (c := pass1 (pass1 c a) a) (day := b) (.inl (by omega))]
theorem pass_idem (c : Cs) (a : Int) : passP (passP c a) a = passP c a := pass_stop (pass_done c a)
theorem on_pass (c : Cs) {a b : Int} (hb : a ≤ b) : onP (passP c a) b = onP c b := by unfold onP; rw [pass_trans c hb]

/-! ### Filings -/
theorem formed_out {f : Fl} (h : formedB f = true) : ∃ s lo hi, rowP f.kind = some (s, lo, hi) ∧ 0 ≤ f.day ∧ f.day < 65536 ∧ lo ≤ f.n ∧ f.n ≤ hi ∧ (f.hold = true → f.kind = 5) ∧
    (if f.kind = 1 then f.cs = 0 ∧ f.day ≤ f.un ∧ f.un < 65536 else f.un = 0 ∧ (s = 0 ∧ f.cs = 0 ∨ s ≠ 0 ∧ 1 ≤ f.cs)) := by
  unfold formedB at h
  split at h
  · cases h
  · rename_i s lo hi hr
    rw [Bool.and_eq_true] at h
    obtain ⟨h1, h2⟩ := h
    have h1 := of_decide_eq_true h1
    refine ⟨s, lo, hi, hr, h1.1, h1.2.1, h1.2.2.1, h1.2.2.2.1, h1.2.2.2.2, ?_⟩
    by_cases hk : f.kind = 1
    · rw [if_pos hk] at h2 ⊢
      exact of_decide_eq_true h2
    · rw [if_neg hk] at h2 ⊢
      exact of_decide_eq_true h2
/-- A formed filing, kind by kind. -/
inductive Kinds (f : Fl) : Prop
  | elect (k : f.kind = 1) (c : f.cs = 0) (n : 2 ≤ f.n ∧ f.n ≤ 9) (u : f.day ≤ f.un ∧ f.un < 65536) (s : stP f.kind = 0)
  | decide (k : f.kind = 4) (c : f.cs = 0) (n : 1 ≤ f.n ∧ f.n ≤ 400) (u : f.un = 0) (s : stP f.kind = 0)
  | choose (k : f.kind = 2) (c : 1 ≤ f.cs) (n : 1 ≤ f.n ∧ f.n ≤ 9) (u : f.un = 0) (s : stP f.kind = 1)
  | lock (k : f.kind = 3) (c : 1 ≤ f.cs) (n : f.n = 0) (u : f.un = 0) (s : stP f.kind = 1)
  | appeal (k : f.kind = 5) (c : 1 ≤ f.cs) (n : f.n = 0) (u : f.un = 0) (s : stP f.kind = 2)
  | rule (k : f.kind = 6) (c : 1 ≤ f.cs) (n : 1 ≤ f.n ∧ f.n ≤ 2) (u : f.un = 0) (s : stP f.kind = 3)
  | withdraw (k : f.kind = 7) (c : 1 ≤ f.cs) (n : f.n = 0) (u : f.un = 0) (s : stP f.kind = 3)
theorem kinds {f : Fl} (h : formedB f = true) : Kinds f := by
  obtain ⟨s, lo, hi, hr, _, _, hn, hn2, _, hc⟩ := formed_out h
  have hk := formed_kinds h
  have hs : stP f.kind = s := by unfold stP; rw [hr]
  rcases (by omega : f.kind = 1 ∨ f.kind = 2 ∨ f.kind = 3 ∨ f.kind = 4 ∨ f.kind = 5 ∨ f.kind = 6 ∨ f.kind = 7) with k | k | k | k | k | k | k
  all_goals
    rw [k] at hr
    simp only [rowP] at hr
    simp at hr
    obtain ⟨rfl, rfl, rfl⟩ := hr
    simp only [k] at hc
    simp at hc
  · exact .elect k hc.1 ⟨hn, hn2⟩ hc.2 hs
  · exact .choose k hc.2 ⟨hn, hn2⟩ hc.1 hs
  · exact .lock k hc.2 (by omega) hc.1 hs
  · exact .decide k hc.2 ⟨hn, hn2⟩ hc.1 hs
  · exact .appeal k hc.2 (by omega) hc.1 hs
  · exact .rule k hc.2 ⟨hn, hn2⟩ hc.1 hs
  · exact .withdraw k hc.2 (by omega) hc.1 hs
theorem CI.opened {f : Fl} (h : formedB f = true) (hs : stP f.kind = 0) : CI (openedP f) f.day := by
  have hd := formed_days h
  cases kinds h with
  | elect k c n u s =>
    have e : openedP f = ⟨true, 1, f.day, f.n, 1, 0, f.un, false, 0, []⟩ := by unfold openedP; rw [if_pos k]
    rw [e]
    exact { st := by simp, dy := (by simp only; omega), lv := by simp, due := (by simp only; omega), hd := fun e => (by cases e), sn := fun _ => rfl, ok := trivial, lv2 := by simp, lv3 := by simp, el := fun _ => (by simp; omega), dc := by simp, past := fun d e => (by cases e), op := (by simp only; omega) }
  | decide k c n u s =>
    have e : openedP f = ⟨false, 2, f.day, f.n, 0, 0, f.day + f.n, false, 0, []⟩ := by unfold openedP; rw [if_neg (by omega)]
    rw [e]
    exact { st := by simp, dy := (by simp only; omega), lv := by simp, due := (by simp only; omega), hd := fun e => (by cases e), sn := fun _ => rfl, ok := trivial, lv2 := by simp, lv3 := by simp, el := fun e => (by cases e), dc := by simp, past := fun d e => (by cases e), op := (by simp only; omega) }
  | _ => omega
theorem doP_st {f : Fl} (h : formedB f = true) (hs : stP f.kind = 0) : f.kind = 1 ∨ f.kind = 4 := by
  cases kinds h with
  | elect k => exact .inl k
  | decide k => exact .inr k
  | _ => omega
/-- An accepted filing keeps what holds of its case. -/
theorem CI.act {f : Fl} {c : Cs} (h : formedB f = true) (hc : CI c f.day) (hs : c.st = stP f.kind) (h0 : (doP f c).2 = 0) : CI (doP f c).1 f.day := by
  have hd := formed_days h
  have hop := hc.op
  cases kinds h with
  | elect k _ _ _ s => rw [s] at hs; have := hc.st; omega
  | decide k _ _ _ s => rw [s] at hs; have := hc.st; omega
  | choose k hcs n u s =>
    rw [s] at hs
    rw [doP_choose k] at h0 ⊢
    have hel : c.el = true := by
      cases e : c.el with
      | true => rfl
      | false => exact absurd hs (hc.dc e).1
    have hh := hc.el hel
    by_cases hn : f.n > c.dy
    · rw [if_pos hn] at h0; cases h0
    · rw [if_neg hn]
      exact { st := hc.st, dy := hc.dy, lv := hc.lv, due := hc.due, hd := hc.hd, sn := hc.sn, ok := hc.ok, lv2 := hc.lv2, lv3 := hc.lv3, el := fun _ => ⟨hh.1, hh.2.1, hh.2.2.1, hh.2.2.2.1, n.1, (by simp only; omega)⟩, dc := fun e => (by simp only at e; rw [hel] at e; cases e), past := hc.past, op := hc.op }
  | lock k _ n u s =>
    rw [doP_close (by omega) (by omega) (by omega)]
    exact hc.fin (Int.le_refl _) (by omega) (Int.le_refl _) (.inl rfl) (fun _ => rfl) (by omega)
  | appeal k hcs n u s =>
    rw [s] at hs
    rw [doP_appeal k]
    have hne := hc.notel (.inl hs)
    have hlv := hc.lv
    have hl2 := hc.lv2 hs
    have hhd : c.hd = false := by
      cases e : c.hd with
      | false => rfl
      | true => have := (hc.hd e).1; omega
    show CI (appealP f c) f.day
    unfold appealP
    split
    · exact { st := by simp, dy := hc.dy, lv := (by simp only; omega), due := (by simp only; omega), hd := fun _ => ⟨rfl, hd.1, Int.le_refl _⟩, sn := fun e => (by cases e), ok := hc.ok, lv2 := fun e => (by simp only at e; omega), lv3 := fun _ => (by simp only; omega), el := fun e => (by simp only at e; rw [hne] at e; cases e), dc := fun e => ⟨by simp, (hc.dc hne).2⟩, past := hc.past, op := (by simp only; omega) }
    · exact { st := by simp, dy := hc.dy, lv := (by simp only; omega), due := (by simp only; omega), hd := fun e => (by simp only at e; rw [hhd] at e; cases e), sn := hc.sn, ok := hc.ok, lv2 := fun e => (by simp only at e; omega), lv3 := fun _ => (by simp only; omega), el := fun e => (by simp only at e; rw [hne] at e; cases e), dc := fun e => ⟨by simp, (hc.dc hne).2⟩, past := hc.past, op := (by simp only; omega) }
  | rule k _ n u s =>
    rw [s] at hs
    have hne := hc.notel (.inr hs)
    rw [doP_rule k]
    show CI (if f.n = 2 then endP c 5 f.day else upholdP c f.day) f.day
    split
    · exact hc.fin (Int.le_refl _) (by omega) (Int.le_refl _) (.inr rfl) (fun e => (by rw [hne] at e; cases e)) (by omega)
    · exact hc.uphold (Int.le_refl _) (by omega) (Int.le_refl _) hne (by omega)
  | withdraw k _ n u s =>
    rw [doP_close (by omega) (by omega) (by omega)]
    exact hc.fin (Int.le_refl _) (by omega) (Int.le_refl _) (.inl rfl) (fun _ => rfl) (by omega)
/-- What filing comes to. -/
inductive FileR (d : List Cs × Int) (f : Fl) : (List Cs × Int) × Int → Prop
  | bad (hf : formedB f = false) : FileR d f (d, 2)
  | late (hf : formedB f = true) (hl : f.day < d.2) : FileR d f (d, 400)
  | full (hf : formedB f = true) (hl : d.2 ≤ f.day) (hs : stP f.kind = 0) (hn : d.1.length = 100) : FileR d f (d, 4)
  | opens (hf : formedB f = true) (hl : d.2 ≤ f.day) (hs : stP f.kind = 0) (hn : d.1.length ≠ 100) : FileR d f ((d.1 ++ [openedP f], f.day), 0)
  | none (hf : formedB f = true) (hl : d.2 ≤ f.day) (hs : stP f.kind ≠ 0) (hn : d.1[(f.cs - 1).toNat]? = none) : FileR d f (d, 6)
  | state (c0 : Cs) (hf : formedB f = true) (hl : d.2 ≤ f.day) (hs : stP f.kind ≠ 0) (hn : d.1[(f.cs - 1).toNat]? = some c0) (ht : (passP c0 f.day).st ≠ stP f.kind) : FileR d f (d, 401)
  | choice (c0 : Cs) (hf : formedB f = true) (hl : d.2 ≤ f.day) (hs : stP f.kind ≠ 0) (hn : d.1[(f.cs - 1).toNat]? = some c0) (ht : (passP c0 f.day).st = stP f.kind) (hk : f.kind = 2) (hc : c0.dy < f.n) : FileR d f (d, 402)
  | act (c0 : Cs) (hf : formedB f = true) (hl : d.2 ≤ f.day) (hs : stP f.kind ≠ 0) (hn : d.1[(f.cs - 1).toNat]? = some c0) (ht : (passP c0 f.day).st = stP f.kind) (h0 : (doP f (passP c0 f.day)).2 = 0) :
      FileR d f ((d.1.set (f.cs - 1).toNat (doP f (passP c0 f.day)).1, f.day), 0)
theorem doP_err (f : Fl) (c : Cs) : (doP f c).2 = 0 ∨ ((doP f c).2 = 402 ∧ f.kind = 2 ∧ c.dy < f.n) := by
  by_cases k2 : f.kind = 2
  · rw [doP_choose k2]
    by_cases hn : f.n > c.dy
    · rw [if_pos hn]; exact .inr ⟨rfl, k2, hn⟩
    · rw [if_neg hn]; exact .inl rfl
  · left
    unfold doP
    rw [if_neg k2]
    split
    · rfl
    · split <;> rfl
theorem fileR (d : List Cs × Int) (f : Fl) : FileR d f (fileP d f) := by
  unfold fileP
  by_cases hf : formedB f = false
  · rw [if_pos hf]; exact .bad hf
  · rw [if_neg hf]
    replace hf : formedB f = true := by simpa using hf
    by_cases hl : f.day < d.2
    · rw [if_pos hl]; exact .late hf hl
    · rw [if_neg hl]
      replace hl : d.2 ≤ f.day := by omega
      by_cases hs : stP f.kind = 0
      · rw [if_pos hs]
        by_cases hn : d.1.length = 100
        · rw [if_pos hn]; exact .full hf hl hs hn
        · rw [if_neg hn]; exact .opens hf hl hs hn
      · rw [if_neg hs]
        cases hn : d.1[(f.cs - 1).toNat]? with
        | none => exact .none hf hl hs hn
        | some c0 =>
          show FileR d f (if (passP c0 f.day).st ≠ stP f.kind then (d, 401) else if (doP f (passP c0 f.day)).2 = 0 then ((d.1.set (f.cs - 1).toNat (doP f (passP c0 f.day)).1, f.day), 0) else (d, (doP f (passP c0 f.day)).2))
          by_cases ht : (passP c0 f.day).st = stP f.kind
          · rw [if_neg (by simpa using ht)]
            rcases doP_err f (passP c0 f.day) with h0 | ⟨h0, hk, hc⟩
            · rw [if_pos h0]; exact .act c0 hf hl hs hn ht h0
            · rw [if_neg (by rw [h0]; decide), h0]
              exact .choice c0 hf hl hs hn ht hk (by rw [← (pass_same c0 f.day).2.2.1]; exact hc)
          · rw [if_pos ht]; exact .state c0 hf hl hs hn ht
structure DI (d : List Cs × Int) : Prop where
  len : d.1.length ≤ 100
  last : 0 ≤ d.2 ∧ d.2 ≤ 65535
  all : ∀ c ∈ d.1, CI c d.2
theorem DI.nil : DI ([], 0) := ⟨Nat.zero_le _, ⟨Int.le_refl _, by show (0 : Int) ≤ 65535; omega⟩, fun _ h => by cases h⟩
theorem DI.at {d : List Cs × Int} (h : DI d) {k : Nat} {c : Cs} (hk : d.1[k]? = some c) : CI c d.2 := h.all c (List.mem_of_getElem? hk)
theorem DI.file {d : List Cs × Int} (f : Fl) (h : DI d) : DI (fileP d f).1 := by
  have r := fileR d f
  generalize fileP d f = x at r
  have hlen := h.len
  have hlast := h.last
  cases r with
  | opens hf hl hs hn =>
    have hd := formed_days hf
    refine ⟨?_, ⟨hd.1, by simp only; omega⟩, fun c hc => ?_⟩
    · simp only [List.length_append, List.length_cons, List.length_nil]; omega
    · rcases List.mem_append.1 hc with hc | hc
      · exact (h.all c hc).mono hl
      · rw [List.mem_singleton] at hc; subst hc; exact CI.opened hf hs
  | act c0 hf hl hs hn ht h0 =>
    have hd := formed_days hf
    refine ⟨by simp only [List.length_set]; exact hlen, ⟨hd.1, by simp only; omega⟩, fun c hc => ?_⟩
    rcases List.mem_or_eq_of_mem_set hc with hc | hc
    · exact (h.all c hc).mono hl
    · subst hc; exact CI.act hf ((h.at hn).pass hl (by omega)) ht h0
  | _ => exact h
theorem DI.filed : ∀ (l : List Fl) {d : List Cs × Int} (out : List Int), DI d → DI (filedP l d out).1
  | [], _, _, h => h
  | f :: l, d, out, h => by
    simp only [filedP]
    split
    · exact DI.filed l _ (h.file f)
    · exact DI.filed l _ h
theorem DI.dock (l : List Fl) : DI (dockP l) := DI.filed l [] DI.nil
end Go.Proofs.YtalconpcpegmlaaDoor
/- What AppealLegal says, in plain Lean: what a filing does to the cases as they are seen on its day. No program in sight. -/
namespace Go.Proofs.YtalconpcpegmlaaDoor
set_option linter.unusedVariables false

def bare (c : Cs) : Cs := { c with held := [] }
theorem bare_held (c : Cs) (h : List Sp) : bare { c with held := h } = bare c := rfl
theorem bare_doP (f : Fl) (c : Cs) (h : List Sp) : bare (doP f { c with held := h }).1 = bare (doP f c).1 := by
  unfold doP
  split
  · show bare (if f.n > c.dy then _ else _ : Cs × Int).1 = bare (if f.n > c.dy then _ else _ : Cs × Int).1
    split <;> rfl
  · split
    · show bare (if f.hold = true then _ else _ : Cs) = bare (if f.hold = true then _ else _ : Cs)
      split <;> rfl
    · split
      · show bare (if f.n = 2 then _ else _ : Cs) = bare (if f.n = 2 then _ else _ : Cs)
        split
        · rfl
        · unfold upholdP
          show bare (if c.lv = 3 then _ else _ : Cs) = bare (if c.lv = 3 then _ else _ : Cs)
          split <;> rfl
      · rfl
theorem act_done {f : Fl} {c : Cs} (h : formedB f = true) (hc : CI c f.day) (hp : 4 ≤ c.st ∨ f.day ≤ c.due) (hs : c.st = stP f.kind) (h0 : (doP f c).2 = 0) :
    4 ≤ (doP f c).1.st ∨ f.day ≤ (doP f c).1.due := by
  have hdy := hc.dy
  cases kinds h with
  | elect k _ _ _ s => rw [s] at hs; have := hc.st; omega
  | decide k _ _ _ s => rw [s] at hs; have := hc.st; omega
  | choose k hcs n u s =>
    rw [doP_choose k] at h0 ⊢
    by_cases hn : f.n > c.dy
    · rw [if_pos hn] at h0; cases h0
    · rw [if_neg hn]; exact hp
  | lock k _ n u s => rw [doP_close (by omega) (by omega) (by omega)]; exact .inl (Int.le_refl _)
  | appeal k _ n u s =>
    rw [doP_appeal k]
    right
    show f.day ≤ (appealP f c).due
    unfold appealP
    split <;> (simp only; omega)
  | rule k _ n u s =>
    rw [doP_rule k]
    show 4 ≤ (if f.n = 2 then endP c 5 f.day else upholdP c f.day).st ∨ f.day ≤ (if f.n = 2 then endP c 5 f.day else upholdP c f.day).due
    split
    · exact .inl (by show (4 : Int) ≤ 5; omega)
    · unfold upholdP
      split
      · exact .inl (Int.le_refl _)
      · exact .inr (by show f.day ≤ f.day + c.dy; omega)
  | withdraw k _ n u s => rw [doP_close (by omega) (by omega) (by omega)]; exact .inl (Int.le_refl _)
theorem on_opened {f : Fl} (h : formedB f = true) (hs : stP f.kind = 0) : onP (openedP f) f.day = openedP f := by
  have hp : passP (openedP f) f.day = openedP f := by
    refine pass_stop (.inr ?_)
    unfold openedP
    cases kinds h with
    | elect k c n u s => rw [if_pos k]; exact u.1
    | decide k c n u s => rw [if_neg (by omega)]; simp only; omega
    | _ => omega
  unfold onP
  rw [hp, heldP_off _ (show (openedP f).hd = false by unfold openedP; split <;> rfl)]
/-- How a case follows on what it was, but for its held days. -/
structure Follows (f : Fl) (was now : Cs) : Prop where
  st : was.st = stP f.kind
  ch : f.kind = 2 → f.n ≤ was.dy
  now : bare now = bare (doP f was).1
structure Legal (d : List Cs × Int) (f : Fl) (r : (List Cs × Int) × Int) : Prop where
  late : r.2 = 400 → f.day < d.2
  time : r.2 ≠ 400 → d.2 ≤ f.day ∧ r.1.2 ≤ f.day
  len : r.1.1.length = d.1.length + (if r.2 = 0 ∧ stP f.kind = 0 then 1 else 0)
  stays : ∀ k (h : k < d.1.length) (h' : k < r.1.1.length), ¬ (r.2 = 0 ∧ f.cs = (k : Int) + 1) → r.1.1[k] = d.1[k]
  own : ∀ k (h : k < d.1.length) (h' : k < r.1.1.length), r.2 = 0 → f.cs = (k : Int) + 1 → Follows f (onP d.1[k] f.day) (onP r.1.1[k] f.day)
  opens : r.2 = 0 → stP f.kind = 0 → ∃ h : d.1.length < r.1.1.length, r.1.1[d.1.length] = openedP f
  choice : r.2 = 402 → f.kind = 2 ∧ ∃ (k : Nat) (h : k < d.1.length), f.cs = (k : Int) + 1 ∧ (d.1[k]).dy < f.n
  none : r.2 = 6 → (d.1.length : Int) < f.cs
theorem cs_pos {f : Fl} (h : formedB f = true) (hs : stP f.kind ≠ 0) : 1 ≤ f.cs := by
  cases kinds h with
  | elect k c n u s => exact absurd s hs
  | decide k c n u s => exact absurd s hs
  | choose k c => exact c
  | lock k c => exact c
  | appeal k c => exact c
  | rule k c => exact c
  | withdraw k c => exact c
theorem cs_zero {f : Fl} (h : formedB f = true) (hs : stP f.kind = 0) : f.cs = 0 := by
  cases kinds h with
  | elect k c n u s => exact c
  | decide k c n u s => exact c
  | _ => omega
theorem legal {d : List Cs × Int} {f : Fl} (hd : DI d) (hf : formedB f = true) : Legal d f (fileP d f) := by
  have r := fileR d f
  generalize fileP d f = x at r
  have hday := formed_days hf
  have same : ∀ e : Int, e ≠ 0 → (e = 400 → f.day < d.2) → (e ≠ 400 → d.2 ≤ f.day) → (e = 402 → f.kind = 2 ∧ ∃ (k : Nat) (h : k < d.1.length), f.cs = (k : Int) + 1 ∧ (d.1[k]).dy < f.n) → (e = 6 → (d.1.length : Int) < f.cs) → Legal d f (d, e) :=
    fun e h0 h1 h2 h3 h4 => ⟨h1, fun h => ⟨h2 h, h2 h⟩, by rw [if_neg (fun h => h0 h.1)]; rfl, fun _ _ _ _ => rfl, fun _ _ _ h => absurd h h0, fun h => absurd h h0, h3, h4⟩
  cases r with
  | bad h => rw [hf] at h; cases h
  | late _ hl => exact same 400 (by decide) (fun _ => hl) (fun h => absurd rfl h) (fun h => absurd h (by decide)) (fun h => absurd h (by decide))
  | full _ hl => exact same 4 (by decide) (fun h => absurd h (by decide)) (fun _ => hl) (fun h => absurd h (by decide)) (fun h => absurd h (by decide))
  | opens _ hl hs hn =>
    refine ⟨by simp, fun _ => ⟨hl, Int.le_refl _⟩, by rw [if_pos ⟨rfl, hs⟩]; simp, fun k h h' _ => by simp [h], fun k h h' _ hc => ?_, fun _ _ => ⟨by simp, by simp⟩, by simp, by simp⟩
    have := cs_zero hf hs
    omega
  | none _ hl hs hn =>
    have := cs_pos hf hs
    rw [List.getElem?_eq_none_iff] at hn
    exact same 6 (by decide) (fun h => absurd h (by decide)) (fun _ => hl) (fun h => absurd h (by decide)) (fun _ => by omega)
  | state c0 _ hl hs hn ht => exact same 401 (by decide) (fun h => absurd h (by decide)) (fun _ => hl) (fun h => absurd h (by decide)) (fun h => absurd h (by decide))
  | choice c0 _ hl hs hn ht hk hc =>
    have := cs_pos hf hs
    obtain ⟨hlt, he⟩ := List.getElem?_eq_some_iff.1 hn
    exact same 402 (by decide) (fun h => absurd h (by decide)) (fun _ => hl) (fun _ => ⟨hk, (f.cs - 1).toNat, hlt, by omega, by rw [he]; exact hc⟩) (fun h => absurd h (by decide))
  | act c0 _ hl hs hn ht h0 =>
    have hp := cs_pos hf hs
    obtain ⟨hlt, he⟩ := List.getElem?_eq_some_iff.1 hn
    refine ⟨by simp, fun _ => ⟨hl, Int.le_refl _⟩, by rw [if_neg (fun h => hs h.2)]; simp, fun k h h' hne => ?_, fun k h h' _ hc => ?_, fun _ h => absurd h hs, by simp, by simp⟩
    · have : (f.cs - 1).toNat ≠ k := fun e => hne ⟨rfl, by omega⟩
      simp only [List.getElem_set]
      rw [if_neg this]
    · have e : (f.cs - 1).toNat = k := by omega
      have hk0 : d.1[k] = c0 := by rw [← he]; simp only [e]
      have hset : (d.1.set (f.cs - 1).toNat (doP f (passP c0 f.day)).1)[k]'h' = (doP f (passP c0 f.day)).1 := by simp only [List.getElem_set]; rw [if_pos e]
      have hci := (hd.at hn).pass hl (by omega)
      have hdone := act_done hf hci (pass_done c0 f.day) ht h0
      refine ⟨?_, fun k2 => ?_, ?_⟩
      · rw [hk0]; exact ht
      · rw [hk0]
        rcases doP_err f (passP c0 f.day) with h | ⟨h, _⟩
        · rw [doP_choose k2] at h
          show f.n ≤ (passP c0 f.day).dy
          by_cases hn2 : f.n > (passP c0 f.day).dy
          · rw [if_pos hn2] at h; cases h
          · omega
        · rw [h0] at h; cases h
      · show bare (onP ((d.1.set (f.cs - 1).toNat (doP f (passP c0 f.day)).1)[k]'h') f.day) = bare (doP f (onP d.1[k] f.day)).1
        rw [hset, hk0]
        unfold onP
        rw [bare_held, pass_stop hdone]
        exact (bare_doP f (passP c0 f.day) (heldP (passP c0 f.day) (f.day + 1))).symm
end Go.Proofs.YtalconpcpegmlaaDoor
/- Accepted filings, in plain Lean: what a docket owes to them. No program in sight. -/
namespace Go.Proofs.YtalconpcpegmlaaDoor
set_option linter.unusedVariables false

def takenP (l : List Fl) : List Fl := ((l.zip (runP l)).filter (fun x => x.2 == 0)).map (·.1)
theorem takenP_snoc {l : List Fl} (f : Fl) (h : l.length < 1000) : takenP (l ++ [f]) = takenP l ++ (if (fileP (dockP l) f).2 = 0 then [f] else []) := by
  unfold takenP
  rw [(dockP_snoc f h).2, List.zip_append (runP_len l).symm, List.filter_append, List.map_append]
  congr 1
  by_cases h0 : (fileP (dockP l) f).2 = 0 <;> simp [h0]
theorem snoc_ind {α : Type} {P : List α → Prop} (h0 : P []) (h1 : ∀ l f, P l → P (l ++ [f])) : ∀ l, P l := by
  have key : ∀ n (l : List α), l.length = n → P l := by
    intro n
    induction n with
    | zero => intro l h; rw [List.eq_nil_of_length_eq_zero h]; exact h0
    | succ n ih =>
      intro l h
      rcases nil_or_snoc l with rfl | ⟨p, q, rfl⟩
      · exact h0
      · exact h1 p q (ih p (by simpa using h))
  exact fun l => key _ l rfl
def chK (k : Nat) (i : Int) (t : List Fl) : Int := t.foldl (fun a f => if f.cs = (k : Int) + 1 ∧ f.kind = 2 then f.n else a) i
def lvK (k : Nat) (t : List Fl) : Int := t.foldl (fun a f => if f.cs = (k : Int) + 1 ∧ f.kind = 5 then a + 1 else a) 0
theorem chK_snoc (k : Nat) (i : Int) (t : List Fl) (f : Fl) : chK k i (t ++ [f]) = if f.cs = (k : Int) + 1 ∧ f.kind = 2 then f.n else chK k i t := by simp [chK]
theorem lvK_snoc (k : Nat) (t : List Fl) (f : Fl) : lvK k (t ++ [f]) = if f.cs = (k : Int) + 1 ∧ f.kind = 5 then lvK k t + 1 else lvK k t := by simp [lvK]
theorem chK_none {k : Nat} {i : Int} {t : List Fl} : (∀ f ∈ t, f.cs ≠ (k : Int) + 1) → chK k i t = i := by
  induction t using snoc_ind with
  | h0 => intro _; rfl
  | h1 t f ih => intro h; rw [chK_snoc, if_neg (fun e => h f (by simp) e.1)]; exact ih fun g hg => h g (by simp [hg])
theorem lvK_none {k : Nat} {t : List Fl} : (∀ f ∈ t, f.cs ≠ (k : Int) + 1) → lvK k t = 0 := by
  induction t using snoc_ind with
  | h0 => intro _; rfl
  | h1 t f ih => intro h; rw [lvK_snoc, if_neg (fun e => h f (by simp) e.1)]; exact ih fun g hg => h g (by simp [hg])
theorem doP_same (f : Fl) (c : Cs) : (doP f c).1.el = c.el ∧ (doP f c).1.op = c.op ∧ (doP f c).1.dy = c.dy := by
  unfold doP
  split
  · split <;> exact ⟨rfl, rfl, rfl⟩
  · split
    · show (if f.hold = true then _ else _ : Cs).el = _ ∧ (if f.hold = true then _ else _ : Cs).op = _ ∧ (if f.hold = true then _ else _ : Cs).dy = _
      split <;> exact ⟨rfl, rfl, rfl⟩
    · split
      · show (if f.n = 2 then _ else _ : Cs).el = _ ∧ (if f.n = 2 then _ else _ : Cs).op = _ ∧ (if f.n = 2 then _ else _ : Cs).dy = _
        split
        · exact ⟨rfl, rfl, rfl⟩
        · unfold upholdP; split <;> exact ⟨rfl, rfl, rfl⟩
      · exact ⟨rfl, rfl, rfl⟩
theorem doP_ch {f : Fl} {c : Cs} (h0 : (doP f c).2 = 0) : (doP f c).1.ch = if f.kind = 2 then f.n else c.ch := by
  by_cases k : f.kind = 2
  · rw [if_pos k]
    rw [doP_choose k] at h0 ⊢
    by_cases hn : f.n > c.dy
    · rw [if_pos hn] at h0; cases h0
    · rw [if_neg hn]
  · rw [if_neg k]
    unfold doP
    rw [if_neg k]
    split
    · show (if f.hold = true then _ else _ : Cs).ch = _
      split <;> rfl
    · split
      · show (if f.n = 2 then _ else _ : Cs).ch = _
        split
        · rfl
        · unfold upholdP; split <;> rfl
      · rfl
theorem doP_lv (f : Fl) (c : Cs) : (doP f c).1.lv = if f.kind = 5 then c.lv + 1 else c.lv := by
  by_cases k : f.kind = 5
  · rw [if_pos k, doP_appeal k]
    show (appealP f c).lv = _
    unfold appealP
    split <;> rfl
  · rw [if_neg k]
    unfold doP
    split
    · split <;> rfl
    · split
      · show (if f.n = 2 then _ else _ : Cs).lv = _
        split
        · rfl
        · unfold upholdP; split <;> rfl
      · rfl
structure Taken (l : List Fl) : Prop where
  formed : ∀ f ∈ takenP l, formedB f = true
  day : ∀ f ∈ takenP l, f.day ≤ (dockP l).2
  last : (dockP l).2 = match (takenP l).getLast? with | none => 0 | some f => f.day
  cs : ∀ f ∈ takenP l, f.cs ≤ (dockP l).1.length
  sorted : (takenP l).Pairwise (fun a b => a.day ≤ b.day)
  dock : dockP (takenP l) = dockP l
  run : ∀ e ∈ runP (takenP l), e = 0
  len : (takenP l).length ≤ l.length
  ch : ∀ k c, (dockP l).1[k]? = some c → c.ch = chK k (if c.el = true then 1 else 0) (takenP l) ∧ c.lv = lvK k (takenP l)
theorem Taken.skip {l : List Fl} {f : Fl} (h : Taken l) (hl : l.length < 1000) (he : (fileP (dockP l) f).2 ≠ 0) (hd : (fileP (dockP l) f).1 = dockP l) : Taken (l ++ [f]) := by
  have ht : takenP (l ++ [f]) = takenP l := by rw [takenP_snoc f hl, if_neg he, List.append_nil]
  have hd' : dockP (l ++ [f]) = dockP l := by rw [(dockP_snoc f hl).1, hd]
  exact ⟨by rw [ht]; exact h.formed, by rw [ht, hd']; exact h.day, by rw [ht, hd']; exact h.last, by rw [ht, hd']; exact h.cs, by rw [ht]; exact h.sorted, by rw [ht, hd']; exact h.dock, by rw [ht]; exact h.run,
    by rw [ht]; simp only [List.length_append, List.length_cons, List.length_nil]; have := h.len; omega, by rw [ht, hd']; exact h.ch⟩
theorem Taken.more {l : List Fl} {f : Fl} {D : List Cs} (h : Taken l) (hl : l.length < 1000) (he : (fileP (dockP l) f).2 = 0) (hd : (fileP (dockP l) f).1 = (D, f.day)) (hf : formedB f = true) (hday : (dockP l).2 ≤ f.day)
    (hn : (dockP l).1.length ≤ D.length) (hcs : f.cs ≤ D.length) (hch : ∀ k c, D[k]? = some c → c.ch = chK k (if c.el = true then 1 else 0) (takenP l ++ [f]) ∧ c.lv = lvK k (takenP l ++ [f])) : Taken (l ++ [f]) := by
  have ht : takenP (l ++ [f]) = takenP l ++ [f] := by rw [takenP_snoc f hl, if_pos he]
  have hd' : dockP (l ++ [f]) = (D, f.day) := by rw [(dockP_snoc f hl).1, hd]
  have hlen := h.len
  have hs := dockP_snoc (l := takenP l) f (by omega)
  rw [h.dock, he, hd] at hs
  refine ⟨?_, ?_, ?_, ?_, ?_, ?_, ?_, ?_, ?_⟩
  · rw [ht]; intro g hg
    rcases List.mem_append.1 hg with hg | hg
    · exact h.formed g hg
    · rw [List.mem_singleton] at hg; subst hg; exact hf
  · rw [ht, hd']; intro g hg
    rcases List.mem_append.1 hg with hg | hg
    · have := h.day g hg; show g.day ≤ f.day; omega
    · rw [List.mem_singleton] at hg; subst hg; exact Int.le_refl _
  · rw [ht, hd']; simp
  · rw [ht, hd']; intro g hg
    rcases List.mem_append.1 hg with hg | hg
    · have := h.cs g hg; show g.cs ≤ D.length; omega
    · rw [List.mem_singleton] at hg; subst hg; exact hcs
  · rw [ht, List.pairwise_append]
    refine ⟨h.sorted, List.pairwise_singleton _ _, fun a ha b hb => ?_⟩
    rw [List.mem_singleton] at hb; subst hb
    have := h.day a ha
    omega
  · rw [ht, hd']; exact hs.1
  · rw [ht, hs.2]; intro e he'
    rcases List.mem_append.1 he' with he' | he'
    · exact h.run e he'
    · rw [List.mem_singleton] at he'; exact he'
  · rw [ht]; simp only [List.length_append, List.length_cons, List.length_nil]; omega
  · rw [ht, hd']; exact hch
theorem taken : ∀ l : List Fl, l.length ≤ 1000 → Taken l := by
  intro l
  induction l using snoc_ind with
  | h0 => exact fun _ => { formed := fun _ h => (by cases h), day := fun _ h => (by cases h), last := rfl, cs := fun _ h => (by cases h), sorted := List.Pairwise.nil, dock := rfl, run := fun _ h => (by cases h), len := Nat.le_refl _, ch := fun _ _ h => (by cases h) }
  | h1 l f ih =>
    intro hl
    simp only [List.length_append, List.length_cons, List.length_nil] at hl
    replace ih := ih (by omega)
    have r := fileR (dockP l) f
    generalize hx : fileP (dockP l) f = x at r
    cases r with
    | opens hf hday hs hn =>
      refine ih.more (by omega) (by rw [hx]) (by rw [hx]) hf hday (by simp) (by rw [cs_zero hf hs]; omega) fun k c hk => ?_
      have h00 := cs_zero hf hs
      have e1 : chK k (if c.el = true then 1 else 0) (takenP l ++ [f]) = chK k (if c.el = true then 1 else 0) (takenP l) := by rw [chK_snoc]; exact if_neg (fun h => (by omega))
      have e2 : lvK k (takenP l ++ [f]) = lvK k (takenP l) := by rw [lvK_snoc]; exact if_neg (fun h => (by omega))
      rw [e1, e2]
      rw [List.getElem?_append] at hk
      split at hk
      · exact ih.ch k c hk
      · rename_i hge
        have hk0 : k = (dockP l).1.length := by
          have := (List.getElem?_eq_some_iff.1 hk).1
          simp only [List.length_cons, List.length_nil] at this
          omega
        subst hk0
        simp only [Nat.sub_self, List.getElem?_cons_zero, Option.some.injEq] at hk
        subst hk
        rw [chK_none (fun g hg => by have := ih.cs g hg; omega), lvK_none (fun g hg => by have := ih.cs g hg; omega)]
        unfold openedP
        split <;> exact ⟨rfl, rfl⟩
    | act c0 hf hday hs hn ht h0 =>
      have hp := cs_pos hf hs
      obtain ⟨hlt, he⟩ := List.getElem?_eq_some_iff.1 hn
      refine ih.more (by omega) (by rw [hx]) (by rw [hx]) hf hday (by simp) (by simp only [List.length_set]; omega) fun k c hk => ?_
      rw [chK_snoc, lvK_snoc]
      rw [List.getElem?_set] at hk
      split at hk
      · rename_i hek
        first | rw [if_pos (show k < (dockP l).1.length by rw [← hek]; exact hlt)] at hk | skip
        simp only [Option.some.injEq] at hk
        subst hk
        have hc := ih.ch k c0 (by rw [← hek]; exact hn)
        have hsm := pass_same c0 f.day
        have hcs : f.cs = (k : Int) + 1 := by omega
        rw [doP_ch h0, doP_lv, (doP_same _ _).1, hsm.1, hsm.2.2.2.1, hsm.2.2.2.2, ← hc.1, ← hc.2]
        simp only [hcs, true_and, and_self]
      · rename_i hek
        have hcs : ¬ f.cs = (k : Int) + 1 := by omega
        have e1 : (if f.cs = (k : Int) + 1 ∧ f.kind = 2 then f.n else chK k (if c.el = true then 1 else 0) (takenP l)) = chK k (if c.el = true then 1 else 0) (takenP l) := if_neg (fun h => hcs h.1)
        have e2 : (if f.cs = (k : Int) + 1 ∧ f.kind = 5 then lvK k (takenP l) + 1 else lvK k (takenP l)) = lvK k (takenP l) := if_neg (fun h => hcs h.1)
        rw [e1, e2]
        exact ih.ch k c hk
    | _ => exact ih.skip (by omega) (by rw [hx]; simp) (by rw [hx])
/-- What is kept by every filing about a case holds of every case of a docket. -/
theorem case_ind (P : Nat → List Fl → Cs → Prop) (hopen : ∀ (t : List Fl) (f : Fl) (k : Nat), formedB f = true → stP f.kind = 0 → (∀ g ∈ t, g.cs ≠ (k : Int) + 1) → P k (t ++ [f]) (openedP f))
    (hother : ∀ (t : List Fl) (f : Fl) (k : Nat) (c : Cs), formedB f = true → f.cs ≠ (k : Int) + 1 → P k t c → P k (t ++ [f]) c)
    (hact : ∀ (t : List Fl) (f : Fl) (k : Nat) (c : Cs) (last : Int), formedB f = true → CI c last → last ≤ f.day → f.cs = (k : Int) + 1 → (passP c f.day).st = stP f.kind → (doP f (passP c f.day)).2 = 0 → P k t c → P k (t ++ [f]) (doP f (passP c f.day)).1) :
    ∀ l : List Fl, l.length ≤ 1000 → ∀ k c, (dockP l).1[k]? = some c → P k (takenP l) c := by
  intro l
  induction l using snoc_ind with
  | h0 => intro _ k c h; cases h
  | h1 l f ih =>
    intro hl k c hk
    have hT := taken (l ++ [f]) hl
    simp only [List.length_append, List.length_cons, List.length_nil] at hl
    replace ih := ih (by omega)
    have hT0 := taken l (by omega)
    rw [(dockP_snoc f (by omega)).1] at hk
    rw [takenP_snoc f (by omega)]
    have r := fileR (dockP l) f
    generalize fileP (dockP l) f = x at r hk
    have skip : ∀ e : Int, e ≠ 0 → (dockP l).1[k]? = some c → P k (takenP l ++ if e = 0 then [f] else []) c := fun e he h => by
      rw [if_neg he, List.append_nil]; exact ih k c h
    cases r with
    | opens hf hday hs hn =>
      rw [if_pos rfl]
      have h0 := cs_zero hf hs
      rw [List.getElem?_append] at hk
      split at hk
      · exact hother _ _ _ _ hf (by omega) (ih k c hk)
      · rename_i hge
        have hk0 : k = (dockP l).1.length := by
          have := (List.getElem?_eq_some_iff.1 hk).1
          simp only [List.length_cons, List.length_nil] at this
          omega
        subst hk0
        simp only [Nat.sub_self, List.getElem?_cons_zero, Option.some.injEq] at hk
        subst hk
        exact hopen _ _ _ hf hs fun g hg => by have := hT0.cs g hg; omega
    | act c0 hf hday hs hn ht h0 =>
      rw [if_pos rfl]
      have hp := cs_pos hf hs
      rw [List.getElem?_set] at hk
      split at hk
      · rename_i hek
        have hlt := (List.getElem?_eq_some_iff.1 hn).1
        have hk2 : some (doP f (passP c0 f.day)).1 = some c := by
          first | exact hk | (rw [if_pos (show k < (dockP l).1.length by rw [← hek]; exact hlt)] at hk; exact hk) | (rw [if_pos hlt] at hk; exact hk)
        simp only [Option.some.injEq] at hk2
        subst hk2
        exact hact _ _ _ _ _ hf ((DI.dock l).at hn) hday (by omega) ht h0 (ih k c0 (by rw [← hek]; exact hn))
      · exact hother _ _ _ _ hf (by omega) (ih k c hk)
    | bad => exact skip 2 (by decide) hk
    | late => exact skip 400 (by decide) hk
    | full => exact skip 4 (by decide) hk
    | none => exact skip 6 (by decide) hk
    | state => exact skip 401 (by decide) hk
    | choice => exact skip 402 (by decide) hk
end Go.Proofs.YtalconpcpegmlaaDoor

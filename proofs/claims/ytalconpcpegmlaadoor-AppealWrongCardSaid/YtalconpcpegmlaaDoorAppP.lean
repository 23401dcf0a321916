/- Appeals in plain Lean: cases, filings, what time and filings do to a docket. No program in sight. -/
import Derived.Test.YtalconpcpegmlaaDoorSpanWd
namespace Go.Proofs.YtalconpcpegmlaaDoor

structure Cs where
  el : Bool
  st : Int
  op : Int
  dy : Int
  ch : Int
  lv : Int
  due : Int
  hd : Bool
  sn : Int
  held : List Sp
structure Fl where
  kind : Int
  day : Int
  cs : Int
  n : Int
  un : Int
  hold : Bool
/-- The days on which payments were held, with those of a hold that ends on a day. -/
def heldP (c : Cs) (day : Int) : List Sp := if c.hd = true then makeV (c.held ++ [(c.sn, max (min day 65536) c.sn)]) else c.held
def endP (c : Cs) (st day : Int) : Cs := { c with held := heldP c day, st := st, due := day, hd := false, sn := 0 }
def upholdP (c : Cs) (day : Int) : Cs := if c.lv = 3 then endP c 4 day else { endP c 2 day with due := day + c.dy }
def pass1 (c : Cs) (day : Int) : Cs := if 4 ≤ c.st ∨ day ≤ c.due then c else if c.st = 3 then upholdP c (c.due + 1) else endP c 4 (c.due + 1)
/-- Time passes up to a day: a state ends at most twice. -/
def passP (c : Cs) (day : Int) : Cs := pass1 (pass1 c day) day
def onP (c : Cs) (day : Int) : Cs := { passP c day with held := heldP (passP c day) (day + 1) }
def rowP (kind : Int) : Option (Int × Int × Int) :=
  if kind = 1 then some (0, 2, 9) else if kind = 4 then some (0, 1, 400) else if kind = 2 then some (1, 1, 9) else if kind = 3 then some (1, 0, 0) else
  if kind = 5 then some (2, 0, 0) else if kind = 6 then some (3, 1, 2) else if kind = 7 then some (3, 0, 0) else none
def formedB (f : Fl) : Bool :=
  match rowP f.kind with
  | none => false
  | some (s, lo, hi) => decide (0 ≤ f.day ∧ f.day < 65536 ∧ lo ≤ f.n ∧ f.n ≤ hi ∧ (f.hold = true → f.kind = 5)) &&
      (if f.kind = 1 then decide (f.cs = 0 ∧ f.day ≤ f.un ∧ f.un < 65536) else decide (f.un = 0 ∧ (s = 0 ∧ f.cs = 0 ∨ s ≠ 0 ∧ 1 ≤ f.cs)))
def openedP (f : Fl) : Cs :=
  if f.kind = 1 then ⟨true, 1, f.day, f.n, 1, 0, f.un, false, 0, []⟩ else ⟨false, 2, f.day, f.n, 0, 0, f.day + f.n, false, 0, []⟩
/-- What an accepted filing does to its case, on its day, and the error if it is not accepted. -/
def doP (f : Fl) (c : Cs) : Cs × Int :=
  if f.kind = 2 then (if f.n > c.dy then (c, 402) else ({ c with ch := f.n }, 0))
  else if f.kind = 5 then (if f.hold = true then { c with st := 3, due := f.day + 365, lv := c.lv + 1, hd := true, sn := f.day } else { c with st := 3, due := f.day + 365, lv := c.lv + 1 }, 0)
  else if f.kind = 6 then (if f.n = 2 then endP c 5 f.day else upholdP c f.day, 0)
  else (endP c 4 f.day, 0)
def stP (kind : Int) : Int := match rowP kind with | some (s, _, _) => s | none => 0
/-- A filing is filed: the docket behind it, and the error. -/
def fileP (d : List Cs × Int) (f : Fl) : (List Cs × Int) × Int :=
  if formedB f = false then (d, 2)
  else if f.day < d.2 then (d, 400)
  else if stP f.kind = 0 then (if d.1.length = 100 then (d, 4) else ((d.1 ++ [openedP f], f.day), 0))
  else match d.1[(f.cs - 1).toNat]? with
    | none => (d, 6)
    | some c0 =>
      let c := passP c0 f.day
      if c.st ≠ stP f.kind then (d, 401)
      else if (doP f c).2 = 0 then ((d.1.set (f.cs - 1).toNat (doP f c).1, f.day), 0) else (d, (doP f c).2)
def filedP : List Fl → List Cs × Int → List Int → (List Cs × Int) × List Int
  | [], d, out => (d, out)
  | f :: l, d, out => if out.length < 1000 then filedP l (fileP d f).1 (out ++ [(fileP d f).2]) else filedP l d (out ++ [5])
def dockP (l : List Fl) : List Cs × Int := (filedP l ([], 0) []).1
def runP (l : List Fl) : List Int := (filedP l ([], 0) []).2
def atP (l : List Fl) (day : Int) : List Cs × Int :=
  if day < 0 ∨ 65536 ≤ day then ([], 2) else if day < (dockP l).2 then ([], 400) else ((dockP l).1.map (onP · day), 0)

/-! ### What holds of every case of a docket -/
structure Inv (c : Cs) (last : Int) : Prop where
  st : 1 ≤ c.st ∧ c.st ≤ 5
  dy : 1 ≤ c.dy ∧ c.dy ≤ 400
  lv : 0 ≤ c.lv ∧ c.lv ≤ 3
  due : 0 ≤ c.due ∧ c.due ≤ 66000
  hd : c.hd = true → c.st = 3 ∧ 0 ≤ c.sn ∧ c.sn ≤ last
  sn : c.hd = false → c.sn = 0
  ok : Ok (-1) c.held
theorem right_snoc {l : List Sp} {e a b : Int} (h : Ok e l) (h0 : 0 ≤ a) (h1 : a ≤ b) (h2 : b ≤ 65536) : (l ++ [(a, b)]).all rightB = true := by
  rw [List.all_append, Bool.and_eq_true]
  refine ⟨?_, by simp [rightB]; omega⟩
  induction l generalizing e with
  | nil => rfl
  | cons s l ih =>
    rw [List.all_cons, ih h.2.2.2.2, Bool.and_true, rightB_iff]
    have := h.2.1
    have := h.2.2.1
    have := h.2.2.2.1
    omega
theorem heldP_ok {c : Cs} {last day : Int} (h : Inv c last) (hl : last ≤ 65536) : Ok (-1) (heldP c day) := by
  unfold heldP
  split
  · rename_i hh
    have := h.hd hh
    exact (makeV_spec (right_snoc h.ok this.2.1 (by omega) (by omega))).1
  · exact h.ok
end Go.Proofs.YtalconpcpegmlaaDoor

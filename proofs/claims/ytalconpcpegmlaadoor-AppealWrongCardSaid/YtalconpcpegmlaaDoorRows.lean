/-
  NARROWER THAN 'FOR EVERY INPUT', by the rows' own cells (each row's printed sentence says how): AppealAsks: laid · AppealLegal: laid · AppealHeld: laid · AppealRejected: laid · AppealSettles: laid · AppealChoice: laid · AppealWrong: laid · AppealTime: laid.
  DERIVED. THE GIVEN ROWS OF THIS SEAT. 8 by the template 'for every input the law returns true; each argument reads behind the call as it read before'; 0 by the template 'total and deterministic' (their statements: YtalconpcpegmlaaDoorTotals.lean).
  GIVEN WITH THE SEED: the statements are not yours to turn. If you find one false, say at which input.
  Laid BY PROGRAM, IN A SANDBOX (cutbox-rows.mjs): the forced cells as the released guide's own fill.sh prints them over the translation 5a956f040bf40c64… (all of the seat's roots in one cut). By AI agents, Wed Nov 11 2026. No macro, syntax, notation, axiom, sorry.
-/
import Derived.Test.YtalconpcpegmlaaDoorChecked
import GoSem.Claim
import GoSem.ClaimJoined
import GoSem.ClaimMapViews
import Derived.JoinedTies
import Derived.KernelRfl
namespace Go.Proofs.YtalconpcpegmlaaDoor
/- THE CELL 'sum', in the pinned program and in every row, IS THE sha256 OF THE DUMP (.gsa) THAT YtalconpcpegmlaaDoorProg.lean LOADS. Nothing in Lean hashes anything: it is a label: what it is worth is what the hold of that sum in a sandbox is worth. -/
noncomputable def Tryd.pinned : Pinned := { name := "ytalconpcpegmlaadoor", sum := "5a956f040bf40c64d9e95ee8b63823ece0457dda8bcc0128eaf4cf850d519d67", checked := Tryd.checked }
namespace Rows
def none {H : Type} : Left H := { results := [], args := [] }

/- WHAT THE LISTED PACKAGE-LEVEL VARIABLES READ AS WHEN THE CALL BEGINS. Each datum BY PROGRAM (the guide's laid-datum.mjs) off the statement by which the dump's own 'gosem.cut.vars' lays the variable. In a bare row this is a premise. The card (YtalconpcpegmlaaDoorCards.lean) ties it to the program's text. -/
def laid_annuitant_appeal_rows {H : Type} : DataW H := .map [(.int .u8 1, .agg [.lit (.int .u8 0), .lit (.int .i64 2), .lit (.int .i64 9)]), (.int .u8 2, .agg [.lit (.int .u8 1), .lit (.int .i64 1), .lit (.int .i64 9)]), (.int .u8 3, .agg [.lit (.int .u8 1), .lit (.int .i64 0), .lit (.int .i64 0)]), (.int .u8 4, .agg [.lit (.int .u8 0), .lit (.int .i64 1), .lit (.int .i64 400)]), (.int .u8 5, .agg [.lit (.int .u8 2), .lit (.int .i64 0), .lit (.int .i64 0)]), (.int .u8 6, .agg [.lit (.int .u8 3), .lit (.int .i64 1), .lit (.int .i64 2)]), (.int .u8 7, .agg [.lit (.int .u8 3), .lit (.int .i64 0), .lit (.int .i64 0)])]

/-- 'annuitantlaw40.AppealAsks': WHATEVER THE INPUT: true; the input reads as it did. -/
def appealAsksSpec : ChangeSpec := { name := "appealAsks", fn := fun _ => fun
  | [d1, d2, d3] => { results := [.lit (.bool true)], args := [d1, d2, d3] }
  | _ => none }
def appealAsksRow : OpenClaim := { program := "ytalconpcpegmlaadoor", sum := "5a956f040bf40c64d9e95ee8b63823ece0457dda8bcc0128eaf4cf850d519d67", func := "annuitant/annuitantlaw40.AppealAsks", spec := "appealAsks", unfollowed := true, recurses := true, named := ["annuitant/appeal.rows"], apart := false, laid := [("annuitant/appeal.rows", laid_annuitant_appeal_rows)] }
def AppealAsksSaid : Prop := appealAsksRow.holds Tryd.pinned (OpenSpec.ofChange appealAsksSpec)

/-- ITS FALSE NEIGHBOUR: 'it returns false'. Refute it at one input. -/
def appealAsksWrong : ChangeSpec := { name := "appealAsks", fn := fun _ => fun
  | [d1, d2, d3] => { results := [.lit (.bool false)], args := [d1, d2, d3] }
  | _ => none }
def AppealAsksWrongFalsely : Prop := appealAsksRow.holds Tryd.pinned (OpenSpec.ofChange appealAsksWrong)

/-- 'annuitantlaw40.AppealLegal': WHATEVER THE INPUT: true; the input reads as it did. -/
def appealLegalSpec : ChangeSpec := { name := "appealLegal", fn := fun _ => fun
  | [d] => { results := [.lit (.bool true)], args := [d] }
  | _ => none }
def appealLegalRow : OpenClaim := { program := "ytalconpcpegmlaadoor", sum := "5a956f040bf40c64d9e95ee8b63823ece0457dda8bcc0128eaf4cf850d519d67", func := "annuitant/annuitantlaw40.AppealLegal", spec := "appealLegal", unfollowed := true, recurses := true, named := ["annuitant/appeal.rows"], apart := false, laid := [("annuitant/appeal.rows", laid_annuitant_appeal_rows)] }
def AppealLegalSaid : Prop := appealLegalRow.holds Tryd.pinned (OpenSpec.ofChange appealLegalSpec)

/-- ITS FALSE NEIGHBOUR: 'it returns false'. Refute it at one input. -/
def appealLegalWrong : ChangeSpec := { name := "appealLegal", fn := fun _ => fun
  | [d] => { results := [.lit (.bool false)], args := [d] }
  | _ => none }
def AppealLegalWrongFalsely : Prop := appealLegalRow.holds Tryd.pinned (OpenSpec.ofChange appealLegalWrong)

/-- 'annuitantlaw40.AppealHeld': WHATEVER THE INPUT: true; the input reads as it did. -/
def appealHeldSpec : ChangeSpec := { name := "appealHeld", fn := fun _ => fun
  | [d1, d2, d3] => { results := [.lit (.bool true)], args := [d1, d2, d3] }
  | _ => none }
def appealHeldRow : OpenClaim := { program := "ytalconpcpegmlaadoor", sum := "5a956f040bf40c64d9e95ee8b63823ece0457dda8bcc0128eaf4cf850d519d67", func := "annuitant/annuitantlaw40.AppealHeld", spec := "appealHeld", unfollowed := true, recurses := true, named := ["annuitant/appeal.rows"], apart := false, laid := [("annuitant/appeal.rows", laid_annuitant_appeal_rows)] }
def AppealHeldSaid : Prop := appealHeldRow.holds Tryd.pinned (OpenSpec.ofChange appealHeldSpec)

/-- ITS FALSE NEIGHBOUR: 'it returns false'. Refute it at one input. -/
def appealHeldWrong : ChangeSpec := { name := "appealHeld", fn := fun _ => fun
  | [d1, d2, d3] => { results := [.lit (.bool false)], args := [d1, d2, d3] }
  | _ => none }
def AppealHeldWrongFalsely : Prop := appealHeldRow.holds Tryd.pinned (OpenSpec.ofChange appealHeldWrong)

/-- 'annuitantlaw40.AppealRejected': WHATEVER THE INPUT: true; the input reads as it did. -/
def appealRejectedSpec : ChangeSpec := { name := "appealRejected", fn := fun _ => fun
  | [d1, d2] => { results := [.lit (.bool true)], args := [d1, d2] }
  | _ => none }
def appealRejectedRow : OpenClaim := { program := "ytalconpcpegmlaadoor", sum := "5a956f040bf40c64d9e95ee8b63823ece0457dda8bcc0128eaf4cf850d519d67", func := "annuitant/annuitantlaw40.AppealRejected", spec := "appealRejected", unfollowed := true, recurses := true, named := ["annuitant/appeal.rows"], apart := false, laid := [("annuitant/appeal.rows", laid_annuitant_appeal_rows)] }
def AppealRejectedSaid : Prop := appealRejectedRow.holds Tryd.pinned (OpenSpec.ofChange appealRejectedSpec)

/-- ITS FALSE NEIGHBOUR: 'it returns false'. Refute it at one input. -/
def appealRejectedWrong : ChangeSpec := { name := "appealRejected", fn := fun _ => fun
  | [d1, d2] => { results := [.lit (.bool false)], args := [d1, d2] }
  | _ => none }
def AppealRejectedWrongFalsely : Prop := appealRejectedRow.holds Tryd.pinned (OpenSpec.ofChange appealRejectedWrong)

/-- 'annuitantlaw40.AppealSettles': WHATEVER THE INPUT: true; the input reads as it did. -/
def appealSettlesSpec : ChangeSpec := { name := "appealSettles", fn := fun _ => fun
  | [d1, d2] => { results := [.lit (.bool true)], args := [d1, d2] }
  | _ => none }
def appealSettlesRow : OpenClaim := { program := "ytalconpcpegmlaadoor", sum := "5a956f040bf40c64d9e95ee8b63823ece0457dda8bcc0128eaf4cf850d519d67", func := "annuitant/annuitantlaw40.AppealSettles", spec := "appealSettles", unfollowed := true, recurses := true, named := ["annuitant/appeal.rows"], apart := false, laid := [("annuitant/appeal.rows", laid_annuitant_appeal_rows)] }
def AppealSettlesSaid : Prop := appealSettlesRow.holds Tryd.pinned (OpenSpec.ofChange appealSettlesSpec)

/-- ITS FALSE NEIGHBOUR: 'it returns false'. Refute it at one input. -/
def appealSettlesWrong : ChangeSpec := { name := "appealSettles", fn := fun _ => fun
  | [d1, d2] => { results := [.lit (.bool false)], args := [d1, d2] }
  | _ => none }
def AppealSettlesWrongFalsely : Prop := appealSettlesRow.holds Tryd.pinned (OpenSpec.ofChange appealSettlesWrong)

/-- 'annuitantlaw40.AppealChoice': WHATEVER THE INPUT: true; the input reads as it did. -/
def appealChoiceSpec : ChangeSpec := { name := "appealChoice", fn := fun _ => fun
  | [d] => { results := [.lit (.bool true)], args := [d] }
  | _ => none }
def appealChoiceRow : OpenClaim := { program := "ytalconpcpegmlaadoor", sum := "5a956f040bf40c64d9e95ee8b63823ece0457dda8bcc0128eaf4cf850d519d67", func := "annuitant/annuitantlaw40.AppealChoice", spec := "appealChoice", unfollowed := true, recurses := true, named := ["annuitant/appeal.rows"], apart := false, laid := [("annuitant/appeal.rows", laid_annuitant_appeal_rows)] }
def AppealChoiceSaid : Prop := appealChoiceRow.holds Tryd.pinned (OpenSpec.ofChange appealChoiceSpec)

/-- ITS FALSE NEIGHBOUR: 'it returns false'. Refute it at one input. -/
def appealChoiceWrong : ChangeSpec := { name := "appealChoice", fn := fun _ => fun
  | [d] => { results := [.lit (.bool false)], args := [d] }
  | _ => none }
def AppealChoiceWrongFalsely : Prop := appealChoiceRow.holds Tryd.pinned (OpenSpec.ofChange appealChoiceWrong)

/-- 'annuitantlaw40.AppealWrong': WHATEVER THE INPUT: true; the input reads as it did. -/
def appealWrongSpec : ChangeSpec := { name := "appealWrong", fn := fun _ => fun
  | [d1, d2, d3, d4, d5] => { results := [.lit (.bool true)], args := [d1, d2, d3, d4, d5] }
  | _ => none }
def appealWrongRow : OpenClaim := { program := "ytalconpcpegmlaadoor", sum := "5a956f040bf40c64d9e95ee8b63823ece0457dda8bcc0128eaf4cf850d519d67", func := "annuitant/annuitantlaw40.AppealWrong", spec := "appealWrong", unfollowed := true, recurses := true, named := ["annuitant/appeal.rows"], apart := false, laid := [("annuitant/appeal.rows", laid_annuitant_appeal_rows)] }
def AppealWrongSaid : Prop := appealWrongRow.holds Tryd.pinned (OpenSpec.ofChange appealWrongSpec)

/-- ITS FALSE NEIGHBOUR: 'it returns false'. Refute it at one input. -/
def appealWrongWrong : ChangeSpec := { name := "appealWrong", fn := fun _ => fun
  | [d1, d2, d3, d4, d5] => { results := [.lit (.bool false)], args := [d1, d2, d3, d4, d5] }
  | _ => none }
def AppealWrongWrongFalsely : Prop := appealWrongRow.holds Tryd.pinned (OpenSpec.ofChange appealWrongWrong)

/-- 'annuitantlaw40.AppealTime': WHATEVER THE INPUT: true; the input reads as it did. -/
def appealTimeSpec : ChangeSpec := { name := "appealTime", fn := fun _ => fun
  | [d1, d2] => { results := [.lit (.bool true)], args := [d1, d2] }
  | _ => none }
def appealTimeRow : OpenClaim := { program := "ytalconpcpegmlaadoor", sum := "5a956f040bf40c64d9e95ee8b63823ece0457dda8bcc0128eaf4cf850d519d67", func := "annuitant/annuitantlaw40.AppealTime", spec := "appealTime", unfollowed := true, recurses := true, named := ["annuitant/appeal.rows"], apart := false, laid := [("annuitant/appeal.rows", laid_annuitant_appeal_rows)] }
def AppealTimeSaid : Prop := appealTimeRow.holds Tryd.pinned (OpenSpec.ofChange appealTimeSpec)

/-- ITS FALSE NEIGHBOUR: 'it returns false'. Refute it at one input. -/
def appealTimeWrong : ChangeSpec := { name := "appealTime", fn := fun _ => fun
  | [d1, d2] => { results := [.lit (.bool false)], args := [d1, d2] }
  | _ => none }
def AppealTimeWrongFalsely : Prop := appealTimeRow.holds Tryd.pinned (OpenSpec.ofChange appealTimeWrong)

/- THE SECOND FORM. 'bulk': how many values and letters a reading holds, each counted each time it is reached (what is shared counts as often as it is met; a slice's spare places count too). A statement '..UptoSaid' is the law's where the arguments, and the package variables that the reading takes, are together of bulk at most 1048576: NARROWER than '..Said'. Prove '..Said' where nothing that the law and all that it calls make is longer than what came in: it says more and counts as full. Else prove '..UptoSaid'. A law counts once. -/
mutual
def uptoBulk {H : Type} : DataW H → Nat
  | .lit (.string bytes) => bytes.length + 1
  | .lit _ => 1
  | .nil => 1
  | .ptr d => uptoBulk d + 1
  | .slice elems spare => uptoBulkAll elems + uptoBulkAll spare + 1
  | .agg parts => uptoBulkAll parts + 1
  | .iface _ d => uptoBulk d + 1
  | .map entries => uptoBulkEntries entries + 1
  | .held _ => 1
def uptoBulkAll {H : Type} : List (DataW H) → Nat
  | [] => 0
  | d :: r => uptoBulk d + uptoBulkAll r
def uptoBulkEntries {H : Type} : List (Lit × DataW H) → Nat
  | [] => 0
  | x :: r => uptoBulkEntry x + uptoBulkEntries r
def uptoBulkEntry {H : Type} : Lit × DataW H → Nat
  | (.string bytes, d) => bytes.length + uptoBulk d + 1
  | (_, d) => uptoBulk d + 1
 end
def uptoSmall : (H : Type) → List (DataW H) → Bool := fun _ ds => decide (uptoBulkAll ds ≤ 1048576)
def OpenSpec.upto (s : _root_.Go.ChangeSpec) : _root_.Go.OpenSpec := { _root_.Go.OpenSpec.ofChange s with cond := some uptoSmall }

/-- 'annuitantlaw40.AppealAsks', WHERE WHAT IT READS IS OF BULK AT MOST 1048576: true; the input reads as it did. -/
def appealAsksUptoRow : OpenClaim := { program := "ytalconpcpegmlaadoor", sum := "5a956f040bf40c64d9e95ee8b63823ece0457dda8bcc0128eaf4cf850d519d67", func := "annuitant/annuitantlaw40.AppealAsks", spec := "appealAsks", unfollowed := true, recurses := true, named := ["annuitant/appeal.rows"], apart := false, laid := [("annuitant/appeal.rows", laid_annuitant_appeal_rows)], narrowed := true }
def AppealAsksUptoSaid : Prop := appealAsksUptoRow.holds Tryd.pinned (OpenSpec.upto appealAsksSpec)

/-- 'annuitantlaw40.AppealLegal', WHERE WHAT IT READS IS OF BULK AT MOST 1048576: true; the input reads as it did. -/
def appealLegalUptoRow : OpenClaim := { program := "ytalconpcpegmlaadoor", sum := "5a956f040bf40c64d9e95ee8b63823ece0457dda8bcc0128eaf4cf850d519d67", func := "annuitant/annuitantlaw40.AppealLegal", spec := "appealLegal", unfollowed := true, recurses := true, named := ["annuitant/appeal.rows"], apart := false, laid := [("annuitant/appeal.rows", laid_annuitant_appeal_rows)], narrowed := true }
def AppealLegalUptoSaid : Prop := appealLegalUptoRow.holds Tryd.pinned (OpenSpec.upto appealLegalSpec)

/-- 'annuitantlaw40.AppealHeld', WHERE WHAT IT READS IS OF BULK AT MOST 1048576: true; the input reads as it did. -/
def appealHeldUptoRow : OpenClaim := { program := "ytalconpcpegmlaadoor", sum := "5a956f040bf40c64d9e95ee8b63823ece0457dda8bcc0128eaf4cf850d519d67", func := "annuitant/annuitantlaw40.AppealHeld", spec := "appealHeld", unfollowed := true, recurses := true, named := ["annuitant/appeal.rows"], apart := false, laid := [("annuitant/appeal.rows", laid_annuitant_appeal_rows)], narrowed := true }
def AppealHeldUptoSaid : Prop := appealHeldUptoRow.holds Tryd.pinned (OpenSpec.upto appealHeldSpec)

/-- 'annuitantlaw40.AppealRejected', WHERE WHAT IT READS IS OF BULK AT MOST 1048576: true; the input reads as it did. -/
def appealRejectedUptoRow : OpenClaim := { program := "ytalconpcpegmlaadoor", sum := "5a956f040bf40c64d9e95ee8b63823ece0457dda8bcc0128eaf4cf850d519d67", func := "annuitant/annuitantlaw40.AppealRejected", spec := "appealRejected", unfollowed := true, recurses := true, named := ["annuitant/appeal.rows"], apart := false, laid := [("annuitant/appeal.rows", laid_annuitant_appeal_rows)], narrowed := true }
def AppealRejectedUptoSaid : Prop := appealRejectedUptoRow.holds Tryd.pinned (OpenSpec.upto appealRejectedSpec)

/-- 'annuitantlaw40.AppealSettles', WHERE WHAT IT READS IS OF BULK AT MOST 1048576: true; the input reads as it did. -/
def appealSettlesUptoRow : OpenClaim := { program := "ytalconpcpegmlaadoor", sum := "5a956f040bf40c64d9e95ee8b63823ece0457dda8bcc0128eaf4cf850d519d67", func := "annuitant/annuitantlaw40.AppealSettles", spec := "appealSettles", unfollowed := true, recurses := true, named := ["annuitant/appeal.rows"], apart := false, laid := [("annuitant/appeal.rows", laid_annuitant_appeal_rows)], narrowed := true }
def AppealSettlesUptoSaid : Prop := appealSettlesUptoRow.holds Tryd.pinned (OpenSpec.upto appealSettlesSpec)

/-- 'annuitantlaw40.AppealChoice', WHERE WHAT IT READS IS OF BULK AT MOST 1048576: true; the input reads as it did. -/
def appealChoiceUptoRow : OpenClaim := { program := "ytalconpcpegmlaadoor", sum := "5a956f040bf40c64d9e95ee8b63823ece0457dda8bcc0128eaf4cf850d519d67", func := "annuitant/annuitantlaw40.AppealChoice", spec := "appealChoice", unfollowed := true, recurses := true, named := ["annuitant/appeal.rows"], apart := false, laid := [("annuitant/appeal.rows", laid_annuitant_appeal_rows)], narrowed := true }
def AppealChoiceUptoSaid : Prop := appealChoiceUptoRow.holds Tryd.pinned (OpenSpec.upto appealChoiceSpec)

/-- 'annuitantlaw40.AppealWrong', WHERE WHAT IT READS IS OF BULK AT MOST 1048576: true; the input reads as it did. -/
def appealWrongUptoRow : OpenClaim := { program := "ytalconpcpegmlaadoor", sum := "5a956f040bf40c64d9e95ee8b63823ece0457dda8bcc0128eaf4cf850d519d67", func := "annuitant/annuitantlaw40.AppealWrong", spec := "appealWrong", unfollowed := true, recurses := true, named := ["annuitant/appeal.rows"], apart := false, laid := [("annuitant/appeal.rows", laid_annuitant_appeal_rows)], narrowed := true }
def AppealWrongUptoSaid : Prop := appealWrongUptoRow.holds Tryd.pinned (OpenSpec.upto appealWrongSpec)

/-- 'annuitantlaw40.AppealTime', WHERE WHAT IT READS IS OF BULK AT MOST 1048576: true; the input reads as it did. -/
def appealTimeUptoRow : OpenClaim := { program := "ytalconpcpegmlaadoor", sum := "5a956f040bf40c64d9e95ee8b63823ece0457dda8bcc0128eaf4cf850d519d67", func := "annuitant/annuitantlaw40.AppealTime", spec := "appealTime", unfollowed := true, recurses := true, named := ["annuitant/appeal.rows"], apart := false, laid := [("annuitant/appeal.rows", laid_annuitant_appeal_rows)], narrowed := true }
def AppealTimeUptoSaid : Prop := appealTimeUptoRow.holds Tryd.pinned (OpenSpec.upto appealTimeSpec)

end Rows
end Go.Proofs.YtalconpcpegmlaaDoor

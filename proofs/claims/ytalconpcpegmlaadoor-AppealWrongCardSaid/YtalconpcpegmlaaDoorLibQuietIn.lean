/- LibQuiet's region inside a round of a range over a function (the wide fence). No program in sight. -/
import Derived.Test.YtalconpcpegmlaaDoorLibQuiet
import Derived.OrdersIn
import Derived.TacticsIn
import Derived.RangeFuncCalls
namespace Go.Proofs.YtalconpcpegmlaaDoor
open Go.RowKit
section
variable {P : Program} {ops : Array Oper} {C : World → Prop} {l n : Nat}
theorem semAt_of_quiet {o : Oper} {a : Act} {w : World} {v : Value} (h : o.quietAt P a C w v) : Oper.semAt (some l) a.eval o = execOp a.eval o := by
  refine Oper.semAt_some l _ o fun c hc => ?_
  unfold Oper.quietAt at h
  rw [show execOp a.eval o = (do pure (.defer (← resolve a.eval c o.type))) by unfold execOp; rw [hc]] at h
  rw [Sem.run_bind] at h
  cases hr : (resolve a.eval c o.type).run P w with
  | ok x w' => rw [hr] at h; simp [Result.andThen, Oper.quietUpon] at h
  | halt x w' => rw [hr] at h; simp [Result.andThen, Oper.quietUpon] at h
theorem wpIn_of_quiet {o : Oper} {a : Act} {K : Act → Prop} {K' : Act → World → Prop} {Q' : Exit → Act → World → Prop} {w : World} (hw : C w) (h : ∀ a w', C w' → K a → K' a w') (hh : o.quiet P a C K) :
    o.wpIn (Fence.wide.inRound l) n P a w K' Q' := by
  obtain ⟨v, h1, h2⟩ := hh
  have h3 := h1 w hw
  refine ⟨fun _ _ => trivial, ?_⟩
  rw [show (Fence.wide.inRound l).round = some l from rfl, semAt_of_quiet h3]
  unfold Oper.quietAt at h3
  generalize (execOp a.eval o).run P w = r at *
  cases r with
  | ok x w' =>
    cases x <;> simp only [Oper.quietUpon] at h3 <;> simp only [Oper.uponIn]
    case value u =>
      obtain ⟨e1, e2⟩ := h3
      rw [e1, e2]
      exact h _ _ hw h2
    case skip =>
      obtain ⟨e1, e2⟩ := h3
      rw [e1, ← e2]
      exact h _ _ hw h2
    case enter f args =>
      obtain ⟨e1, hc⟩ := h3
      rw [e1]
      refine ⟨fun hd => (by cases hd), CallsIn.inRound l (CallsIn.mono (callsIn_wide.2 hc) ?_)⟩
      rintro e w'' ⟨rfl, hw''⟩
      exact h _ _ hw'' h2
  | halt x w' => simp only [Oper.quietUpon] at h3
theorem wpOpIn_of_qOp {i : Nat} {a : Act} {K : Act → Prop} {K' : Act → World → Prop} {Q' : Exit → Act → World → Prop} {w : World} (hC : C w) (h : ∀ a w', C w' → K a → K' a w') (hh : qOp P ops C i K a) :
    wpOpIn (Fence.wide.inRound l) n P ops Q' i K' a w := by
  unfold qOp at hh
  unfold wpOpIn
  split
  · rename_i ho; simp only [ho] at hh; exact h _ _ hC hh
  · rename_i o ho
    simp only [ho] at hh
    split
    · rename_i hw; simp only [hw, if_true] at hh; exact wpIn_of_quiet hC h hh
    · rename_i hw; simp only [hw] at hh; exact ⟨fun _ _ => trivial, h _ _ hC hh⟩
theorem wpAnyIn_of_quiet {md : Region.Mode} {Q : Act → Prop} {Q' : Exit → Act → World → Prop} (hQ : ∀ a w, C w → Q a → Q' .normal a w) : ∀ (fuel : Nat) (listed : Array Bool) (a : Act) (w : World), C w →
    wpAnyQ P md ops C Q fuel listed a → wpAnyIn (Fence.wide.inRound l) n P md ops Q' fuel listed a w
  | 0, _, _, _, hw, h => ⟨h.1, hQ _ _ hw h.2⟩
  | fuel + 1, _, _, _, hw, h => ⟨fun h0 => hQ _ _ hw (h.1 h0), fun i hi => wpOpIn_of_qOp hw (fun a' w' hw' => wpAnyIn_of_quiet hQ fuel _ a' w' hw') (h.2 i hi)⟩
end
theorem wpIn_region_ext {P : Program} {id l n : Nat} {Q : Exit → Act → World → Prop} {a : Act} {w : World} {ls : List Oper} (hm : P.follows .mixedOrders = true) (hB : Region.lexB .any ls.toArray = true)
    (h : wpQuiet P ls.toArray (fun w' => ∃ x, w' = gr w x) (fun a' => ∀ w', Ext w w' → Q .normal a' w') ls a) : (Code.region id ls.toArray true).wpIn (Fence.wide.inRound l) n P Q a w := by
  simp only [Region.lexB, Bool.and_eq_true] at hB
  refine wpIn_region_any hm (wpAnyIn_of_quiet (C := fun w' => ∃ x, w' = gr w x) (Q := fun a' => ∀ w', Ext w w' → Q .normal a' w') (fun _ w' ⟨x, hx⟩ h => h w' (hx ▸ ext_gr w x)) _ _ _ _ ⟨_, gr_drew w⟩ ?_)
  have := wpAnyQ_lex (C := fun w' => ∃ x, w' = gr w x) (md := .any) hB.1 ls 0 (Array.replicate ls.length false) a (by simp) (by simpa using hB.2) h
  simpa using this
end Go.Proofs.YtalconpcpegmlaaDoor

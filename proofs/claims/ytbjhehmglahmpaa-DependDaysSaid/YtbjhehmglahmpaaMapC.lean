/- Maps from keys to counts, as the model keeps them: lookup, entry and store. No program in sight. -/
import Derived.Test.YtbjhehmglahmpaaLib
import Derived.Maps.Own
import Derived.WideKeyEntry
namespace Go.Proofs.Ytbjhehmglahmpaa
open Go.RowKit Go.ChangeMaps Go.MapKept Go.WideElems
open Go.Maps (Keyed)

structure Ent (P : Program) (k : TypeId) (es : Array MapEntry) (clock : Nat) (f : Value → Int) : Prop where
  key : ∀ e ∈ es.toList, ∃ l, keyOf P k e.key = some l
  val : ∀ e ∈ es.toList, e.val = .int .i64 (f e.key)
  born : ∀ e ∈ es.toList, e.born < clock
  nodup : (es.toList.map (·.born)).Nodup
  uniq : (es.toList.map (·.key)).Nodup
  none : ∀ v, (∀ e ∈ es.toList, e.key ≠ v) → f v = 0
/-- Block B is a map that holds the counts f; what is not in it counts 0. -/
def CMap (P : Program) (k : TypeId) (w : World) (B : Nat) (f : Value → Int) : Prop := ∃ es clock, w.heap[B]? = some (.map es clock) ∧ Ent P k es clock f
section
variable {P : Program} {k e t : TypeId} {w w' : World} {B : Nat} {f : Value → Int}
theorem CMap.made : CMap P k (w.alloc (.map #[] 0)) w.heap.size (fun _ => 0) :=
  ⟨#[], 0, heap_new w _, ⟨by simp, by simp, by simp, by simp, by simp, fun _ _ => rfl⟩⟩
theorem CMap.lt (h : CMap P k w B f) : B < w.heap.size := by obtain ⟨es, clock, hb, _⟩ := h; exact lt_of hb
theorem CMap.ext (h : CMap P k w B f) (hx : Ext w w') : CMap P k w' B f := by
  obtain ⟨es, clock, hb, F⟩ := h
  exact ⟨es, clock, heap_ext hb hx, F⟩
theorem CMap.grown {row : Option Nat} (h : CMap P k w B f) (hg : w.grownBy w' row) (hne : some B ≠ row) : CMap P k w' B f := by
  obtain ⟨es, clock, hb, F⟩ := h
  exact ⟨es, clock, (hg.block B (lt_of hb) hne).trans hb, F⟩
theorem CMap.look (h : CMap P k w B f) (K : Keyed P k) (ht : P.underlying t = some (.map k e)) (hz : ∀ u, (zeroValue e).run P u = .ok (.int .i64 0) u) {key : Value} {kl : Lit} (hkey : keyOf P k key = some kl) :
    (Instr.lookup t (.map (some B)) key false).run P w = .ok (.int .i64 (f key)) w := by
  obtain ⟨es, clock, hb, F⟩ := h
  rcases K.find w hkey es.toList F.key with ⟨h1, h2⟩ | ⟨j, e0, h1, h2, h3⟩
  · simp [Instr.lookup, run_underlying ht, MapKept.run_getObj_map hb, K.check w _ hkey, h1, hz, F.none key h2, Result.andThen]
  · have hv := F.val e0 (List.mem_of_getElem? h2)
    rw [h3] at hv
    simp [Instr.lookup, run_underlying ht, MapKept.run_getObj_map hb, K.check w _ hkey, h1, hv, Result.andThen]
theorem setBlock_grown {es : Array MapEntry} {clock : Nat} {o : Obj} (hb : w.heap[B]? = some (.map es clock)) : w.grownBy (setBlock w B o) (some B) :=
  ⟨rfl, rfl, rfl, by simp [setBlock], fun i _ hi => heap_setBlock_other hb _ (fun e => hi (by rw [e]))⟩
theorem Ent.push {es : Array MapEntry} {clock : Nat} {key : Value} {kl : Lit} {f' : Value → Int} {val : Int} (F : Ent P k es clock f) (hkey : keyOf P k key = some kl) (h2 : ∀ e ∈ es.toList, e.key ≠ key)
    (hf1 : f' key = val) (hf2 : ∀ v, v ≠ key → f' v = f v) : Ent P k (es.push ⟨key, .int .i64 val, clock⟩) (clock + 1) f' := by
  constructor
  · simp only [Array.toList_push, List.mem_append, List.mem_singleton]
    rintro x (hx | rfl)
    · exact F.key x hx
    · exact ⟨kl, hkey⟩
  · simp only [Array.toList_push, List.mem_append, List.mem_singleton]
    rintro x (hx | rfl)
    · rw [hf2 _ (h2 x hx)]; exact F.val x hx
    · dsimp only; rw [hf1]
  · simp only [Array.toList_push, List.mem_append, List.mem_singleton]
    rintro x (hx | rfl)
    · have := F.born x hx; omega
    · dsimp only; omega
  · simp only [Array.toList_push, List.map_append, List.map_cons, List.map_nil]
    refine List.nodup_append.2 ⟨F.nodup, by simp, fun a ha c hc e1 => ?_⟩
    simp only [List.mem_singleton] at hc
    obtain ⟨x, hx, rfl⟩ := List.mem_map.1 ha
    have := F.born x hx
    omega
  · simp only [Array.toList_push, List.map_append, List.map_cons, List.map_nil]
    refine List.nodup_append.2 ⟨F.uniq, by simp, fun a ha c hc e1 => ?_⟩
    simp only [List.mem_singleton] at hc
    obtain ⟨x, hx, rfl⟩ := List.mem_map.1 ha
    exact h2 x hx (e1.trans hc)
  · intro v hv
    have hne : v ≠ key := fun e1 => hv ⟨key, .int .i64 val, clock⟩ (by simp) e1.symm
    rw [hf2 v hne]
    refine F.none v fun x hx => hv x ?_
    simp [hx]
theorem Ent.set {es es' : Array MapEntry} {clock : Nat} {key : Value} {kl : Lit} {f' : Value → Int} {val : Int} {j : Nat} {e0 : MapEntry} (F : Ent P k es clock f) (hkey : keyOf P k key = some kl) (h2 : es.toList[j]? = some e0) (h3 : e0.key = key)
    (hf1 : f' key = val) (hf2 : ∀ v, v ≠ key → f' v = f v) (hl : es'.toList = es.toList.set j { e0 with val := .int .i64 val }) : Ent P k es' clock f' := by
  have hmem := List.mem_of_getElem? h2
  have hmm : ∀ x ∈ es.toList.set j { e0 with val := .int .i64 val }, x = { e0 with val := .int .i64 val } ∨ (x ∈ es.toList ∧ x.key ≠ key) := by
    intro x hx
    obtain ⟨i, hi, hxi⟩ := List.mem_iff_getElem.1 hx
    rw [List.getElem_set] at hxi
    split at hxi
    · exact .inl hxi.symm
    · rename_i hij
      right
      rw [List.length_set] at hi
      refine ⟨by rw [← hxi]; exact List.getElem_mem hi, fun hk => hij ?_⟩
      have hjl : j < es.toList.length := (List.getElem?_eq_some_iff.1 h2).1
      have e1 : (es.toList.map (·.key))[i]'(by simpa using hi) = (es.toList.map (·.key))[j]'(by simpa using hjl) := by
        simp only [List.getElem_map]
        rw [hxi, hk, ← h3, (List.getElem?_eq_some_iff.1 h2).2]
      have hpw := List.pairwise_iff_getElem.1 F.uniq
      rcases Nat.lt_trichotomy i j with h | h | h
      · exact absurd e1 (hpw i j (by simpa using hi) (by simpa using hjl) h)
      · exact h.symm
      · exact absurd e1.symm (hpw j i (by simpa using hjl) (by simpa using hi) h)
  have hmk : ∀ x ∈ es.toList, ∃ y ∈ es.toList.set j { e0 with val := .int .i64 val }, y.key = x.key ∧ y.born = x.born := by
    intro x hx
    obtain ⟨i, hi, hxi⟩ := List.mem_iff_getElem.1 hx
    by_cases hij : j = i
    · subst hij
      refine ⟨{ e0 with val := .int .i64 val }, ?_, ?_⟩
      · rw [List.mem_iff_getElem]
        exact ⟨j, by simpa using hi, by simp⟩
      · have : es.toList[j] = e0 := (List.getElem?_eq_some_iff.1 h2).2
        rw [← hxi, this]; exact ⟨rfl, rfl⟩
    · refine ⟨x, ?_, rfl, rfl⟩
      rw [List.mem_iff_getElem]
      exact ⟨i, by simpa using hi, by rw [List.getElem_set_ne hij]; exact hxi⟩
  have hkeys : (es.toList.set j { e0 with val := .int .i64 val }).map (·.key) = es.toList.map (·.key) := by
    rw [List.map_set]
    refine set_self _ _ _ ?_
    rw [List.getElem?_map, h2]; rfl
  have hborns : (es.toList.set j { e0 with val := .int .i64 val }).map (·.born) = es.toList.map (·.born) := by
    rw [List.map_set]
    refine set_self _ _ _ ?_
    rw [List.getElem?_map, h2]; rfl
  constructor
  · rw [hl]
    intro x hx
    rcases hmm x hx with rfl | ⟨hx, _⟩
    · exact ⟨kl, by rw [← hkey, ← h3]⟩
    · exact F.key x hx
  · rw [hl]
    intro x hx
    rcases hmm x hx with rfl | ⟨hx, hne⟩
    · dsimp only; rw [h3, hf1]
    · rw [hf2 _ hne]; exact F.val x hx
  · rw [hl]
    intro x hx
    rcases hmm x hx with rfl | ⟨hx, _⟩
    · exact F.born e0 hmem
    · exact F.born x hx
  · rw [hl, hborns]; exact F.nodup
  · rw [hl, hkeys]; exact F.uniq
  · rw [hl]
    intro v hv
    have hne : v ≠ key := by
      rintro rfl
      obtain ⟨y, hy, hk, _⟩ := hmk e0 hmem
      exact hv y hy (hk.trans h3)
    rw [hf2 v hne]
    refine F.none v fun x hx hk => ?_
    obtain ⟨y, hy, hk2, _⟩ := hmk x hx
    exact hv y hy (hk2.trans hk)
theorem CMap.enter (h : CMap P k w B f) (K : Keyed P k) (ht : P.underlying t = some (.map k e)) (hz : ∀ u, (zeroValue e).run P u = .ok (.int .i64 0) u) {key : Value} {kl : Lit} (hkey : keyOf P k key = some kl) :
    ∃ st w1, (Instr.mapEntry t (.map (some B)) key).run P w = .ok (.tuple #[.int .i64 (f key), goInt st]) w1 ∧ CMap P k w1 B f ∧ w.grownBy w1 (some B) ∧
      ∀ (val : Int) (f' : Value → Int), f' key = val → (∀ v, v ≠ key → f' v = f v) → ∃ w2, (Instr.entryStore t (.map (some B)) (goInt st) (.int .i64 val)).run P w1 = .ok () w2 ∧ CMap P k w2 B f' ∧ w1.grownBy w2 (some B) := by
  obtain ⟨es, clock, hb, F⟩ := h
  rcases K.find w hkey es.toList F.key with ⟨h1, h2⟩ | ⟨j, e0, h1, h2, h3⟩
  · have hf := F.none key h2
    have hb1 : (setBlock w B (.map (es.push ⟨key, .int .i64 0, clock⟩) (clock + 1))).heap[B]? = some (.map (es.push ⟨key, .int .i64 0, clock⟩) (clock + 1)) := heap_setBlock_same hb _
    refine ⟨clock, setBlock w B (.map (es.push ⟨key, .int .i64 0, clock⟩) (clock + 1)), ?_, ⟨_, _, hb1, ?_⟩, setBlock_grown hb, fun val f' hf1 hf2 => ⟨setBlock (setBlock w B (.map (es.push ⟨key, .int .i64 0, clock⟩) (clock + 1))) B (.map (es.push ⟨key, .int .i64 val, clock⟩) (clock + 1)), ?_, ⟨_, _, heap_setBlock_same hb1 _, ?_⟩, setBlock_grown hb1⟩⟩
    · simp [Instr.mapEntry, run_underlying ht, MapKept.run_getObj_map hb, K.check w false hkey, h1, hz, MapKept.run_setObj_map _ hb, Result.andThen, setBlock, hf]
    · constructor
      · simp only [Array.toList_push, List.mem_append, List.mem_singleton]
        rintro x (hx | rfl)
        · exact F.key x hx
        · exact ⟨kl, hkey⟩
      · simp only [Array.toList_push, List.mem_append, List.mem_singleton]
        rintro x (hx | rfl)
        · exact F.val x hx
        · dsimp only; rw [hf]
      · simp only [Array.toList_push, List.mem_append, List.mem_singleton]
        rintro x (hx | rfl)
        · have := F.born x hx; omega
        · dsimp only; omega
      · simp only [Array.toList_push, List.map_append, List.map_cons, List.map_nil]
        refine List.nodup_append.2 ⟨F.nodup, by simp, fun a ha c hc e1 => ?_⟩
        simp only [List.mem_singleton] at hc
        obtain ⟨x, hx, rfl⟩ := List.mem_map.1 ha
        have := F.born x hx
        omega
      · simp only [Array.toList_push, List.map_append, List.map_cons, List.map_nil]
        refine List.nodup_append.2 ⟨F.uniq, by simp, fun a ha c hc e1 => ?_⟩
        simp only [List.mem_singleton] at hc
        obtain ⟨x, hx, rfl⟩ := List.mem_map.1 ha
        exact h2 x hx (e1.trans hc)
      · intro v hv
        refine F.none v fun x hx => hv x ?_
        simp [hx]
    · have hidx : (es.push ⟨key, .int .i64 0, clock⟩).findIdx? (fun e => ((e.born : Nat) : Int) == ((clock : Nat) : Int)) = some es.size := by
        rw [findIdx_arr]
        have := findIdx_born (l := (es.push ⟨key, .int .i64 0, clock⟩).toList) (j := es.size) (e0 := ⟨key, .int .i64 0, clock⟩) (by
          simp only [Array.toList_push, List.map_append, List.map_cons, List.map_nil]
          refine List.nodup_append.2 ⟨F.nodup, by simp, fun a ha c hc e1 => ?_⟩
          simp only [List.mem_singleton] at hc
          obtain ⟨x, hx, rfl⟩ := List.mem_map.1 ha
          have := F.born x hx
          omega) (by simp)
        exact this
      have hmod : (es.push ⟨key, .int .i64 0, clock⟩).modify es.size (fun e => { e with val := .int .i64 val }) = es.push ⟨key, .int .i64 val, clock⟩ := by
        apply Array.ext'
        rw [Array.toList_modify, Array.toList_push, Array.toList_push, ← Array.length_toList, modify_last]
      generalize setBlock w B (.map (es.push ⟨key, .int .i64 0, clock⟩) (clock + 1)) = w1 at hb1 ⊢
      simp [Instr.entryStore, MapKept.run_getObj_map hb1, asInt, asIntOf, goInt, hidx, hmod, MapKept.run_setObj_map _ hb1, Result.andThen, setBlock]
    · exact F.push hkey h2 hf1 hf2
  · have hj : es[j]? = some e0 := by simpa using h2
    have hmem := List.mem_of_getElem? h2
    have hv0 := F.val e0 hmem
    rw [h3] at hv0
    have hsame : es.modify j (fun e => { e with key := key }) = es := by
      apply Array.ext'
      rw [Array.toList_modify, modify_eq_set _ _ _ _ h2]
      have : ({ e0 with key := key } : MapEntry) = e0 := by rw [← h3]
      rw [this]
      exact set_self _ _ _ h2
    have hb1 : (setBlock w B (.map es clock)).heap[B]? = some (.map es clock) := heap_setBlock_same hb _
    refine ⟨e0.born, setBlock w B (.map es clock), ?_, ⟨_, _, hb1, F⟩, setBlock_grown hb, fun val f' hf1 hf2 => ⟨setBlock (setBlock w B (.map es clock)) B (.map (es.modify j (fun e' => { e' with val := .int .i64 val })) clock), ?_, ⟨_, _, heap_setBlock_same hb1 _, ?_⟩, setBlock_grown hb1⟩⟩
    · simp [Instr.mapEntry, run_underlying ht, MapKept.run_getObj_map hb, K.check w false hkey, h1, hj, h3, K.stays w hkey, hsame, MapKept.run_setObj_map _ hb, Result.andThen, setBlock, hv0]
    · have hidx : es.findIdx? (fun e => ((e.born : Nat) : Int) == ((e0.born : Nat) : Int)) = some j := by
        rw [findIdx_arr]
        exact findIdx_born F.nodup h2
      generalize setBlock w B (.map es clock) = w1 at hb1 ⊢
      simp [Instr.entryStore, MapKept.run_getObj_map hb1, asInt, asIntOf, goInt, hidx, MapKept.run_setObj_map _ hb1, Result.andThen, setBlock]
    · exact F.set hkey h2 h3 hf1 hf2 (by rw [Array.toList_modify, modify_eq_set _ _ _ _ h2])
theorem CMap.update (h : CMap P k w B f) (K : Keyed P k) (ht : P.underlying t = some (.map k e)) {key : Value} {kl : Lit} (hkey : keyOf P k key = some kl) (val : Int) (f' : Value → Int) (hf1 : f' key = val) (hf2 : ∀ v, v ≠ key → f' v = f v) :
    ∃ w2, (Instr.mapUpdate t (.map (some B)) key (.int .i64 val)).run P w = .ok () w2 ∧ CMap P k w2 B f' ∧ w.grownBy w2 (some B) := by
  obtain ⟨es, clock, hb, F⟩ := h
  rcases K.find w hkey es.toList F.key with ⟨h1, h2⟩ | ⟨j, e0, h1, h2, h3⟩
  · refine ⟨setBlock w B (.map (es.push ⟨key, .int .i64 val, clock⟩) (clock + 1)), ?_, ⟨_, _, heap_setBlock_same hb _, F.push hkey h2 hf1 hf2⟩, setBlock_grown hb⟩
    simp [Instr.mapUpdate, run_underlying ht, MapKept.run_getObj_map hb, K.check w false hkey, h1, MapKept.run_setObj_map _ hb, Result.andThen, setBlock]
  · have hj : es[j]? = some e0 := by simpa using h2
    refine ⟨setBlock w B (.map (es.modify j (fun e' => { e' with key := key, val := .int .i64 val })) clock), ?_, ⟨_, _, heap_setBlock_same hb _, F.set hkey h2 h3 hf1 hf2 (by rw [Array.toList_modify, modify_eq_set _ _ _ _ h2, ← h3])⟩, setBlock_grown hb⟩
    simp [Instr.mapUpdate, run_underlying ht, MapKept.run_getObj_map hb, K.check w false hkey, h1, hj, h3, K.stays w hkey, MapKept.run_setObj_map _ hb, Result.andThen, setBlock]
/-- 'm[x] = v' at the operation. -/
theorem wpList_mapUpdate_c {ops : Array Oper} {rest : List Oper} {o : Oper} {a : Act} {Q : Exit → Act → World → Prop} (hg : o.guard = none) (m x v : Operand) (t : TypeId) (hop : o.op = Op.mapUpdate t m x v)
    {w2 : World} {mv xv vv : Value} (hm : a.eval m = mv) (hx : a.eval x = xv) (hv : a.eval v = vv) (hrun : (Instr.mapUpdate t mv xv vv).run P w = .ok () w2)
    (hK : wpList P ops Q rest (a.put o.dst undef) w2) : wpList P ops Q (o :: rest) a w := by
  refine wpList_plain hg fun K' hK' => ?_
  unfold Oper.wp
  simp [execOp, hop, hm, hx, hv, hrun, Result.andThen]
  exact hK' _ _ hK
end
end Go.Proofs.Ytbjhehmglahmpaa

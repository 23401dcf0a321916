import Derived.Test.YtbjhehmglahmpaaSpanWe
import Derived.Test.YtbjhehmglahmpaaSpanIn
namespace Go.Proofs.Ytbjhehmglahmpaa
open Go.RowKit

/-! ### annuitantlaw04.Built: some set -/
def encU (x : Int) : List Value := [.int .u16 x]
theorem Sl.at1 {w : World} {p : Option Addr} {l : List Int} (h : Sl 1 encU w p l) (k : Nat) (hk : k < l.length) :
    ∃ b off x, p = some ⟨b, off, none⟩ ∧ b < w.heap.size ∧ w.cell? ⟨b, off + k, none⟩ = some (.int .u16 x) ∧ x ∈ l := by
  obtain ⟨b, off, e, hb, hc⟩ := h k hk
  have := hc 0 _ rfl
  rw [Nat.mul_one, Nat.add_zero] at this
  exact ⟨b, off, l[k], e, hb, this, List.getElem_mem hk⟩
theorem Sl.at1' {w : World} {p : Option Addr} {l : List Int} (h : Sl 1 encU w p l) (k : Nat) (hk : k < l.length) (b off : Nat) (hp : p = some ⟨b, off, none⟩) :
    ∃ x, w.cell? ⟨b, off + k, none⟩ = some (.int .u16 x) ∧ x ∈ l := by
  obtain ⟨b', off', x, e, _, h1, h2⟩ := h.at1 k hk
  rw [hp] at e
  simp only [Option.some.injEq, Addr.mk.injEq, and_true] at e
  rw [e.1, e.2]
  exact ⟨x, h1, h2⟩
def RdB (w w' : World) (e : Ending) : Prop := ∃ p c xs, e = .returned (.slice p xs.length c) ∧ Sl 2 enc2 w' p xs ∧ Ok (-1) xs ∧ xs.length ≤ 60 ∧ Ext w w'
set_option maxHeartbeats 1600000 in
theorem built_any (l : List Int) (p : Option Addr) (c : Nat) (w : World) (hl : Sl 1 encU w p l) (_hm : l.length ≤ 9223372036854775807) (hu : ∀ x ∈ l, 0 ≤ x ∧ x ≤ 65535) :
    Calls Try.prog 27 #[.slice p l.length c] w fun e w' => RdB w w' e := by
  have HU := Lib.hid hu
  clear hu
  go_enter Try.func27, Try.ntmps27
  go_wp2
  go_loopw [3, 4, 5] (fun v a i wr => ∃ (k : Nat) (z : Int) (out : List Sp), k ≤ 60 ∧ i = .int .i64 (2 * (k : Int)) ∧ a = .int .i64 z ∧ -1 ≤ z ∧ z ≤ 65536 ∧ OwnS w wr v out ∧ out.length ≤ k ∧ Hid (Ok (-1) out) ∧ Hid (∀ p q, out = p ++ [q] → q.2 = z) ∧ Ext w wr) (fun _ _ i _ => 120 - (intOf i).toNat)
  case atStart => exact ⟨0, -1, [], by omega, rfl, rfl, by omega, by omega, Owns.nil, by simp, trivial, (fun p q h => by simp at h), Ext.refl _⟩
  case round =>
    obtain ⟨k, z, out, hk, rfl, rfl, hz0, hz1, hown, hlo, hO, hL, hb⟩ := hrel
    by_cases hlt : 2 * k + 1 < l.length
    · have h1 : 2 * (k : Int) + 1 < (l.length : Int) := by omega
      by_cases h6 : k < 60
      · have h120 : 2 * (k : Int) < 120 := by omega
        obtain ⟨b, off, x, rfl, hbl, cx, hx⟩ := (hl.ext hb).at1 (2 * k) (by omega)
        obtain ⟨y, cy, hy⟩ := (hl.ext hb).at1' (2 * k + 1) hlt b off rfl
        have ux := HU.out x hx
        have uy := HU.out y hy
        have hlt0 : 2 * (k : Int) < (l.length : Int) := by omega
        have xm : 0 ≤ x % 3000 ∧ x % 3000 < 3000 := by omega
        have ym : 0 ≤ y % 3000 ∧ y % 3000 < 3000 := by omega
        obtain ⟨p2, c2, rfl, _⟩ := hown.read enc2_len
        clear hx hy hl
        by_cases he : 65536 < z + 1 + x % 3000 + 1 + y % 3000
        · go_wp2_with fail
          go_ret
          exact ⟨p2, c2, out, rfl, (hown.read enc2_len).elim fun p3 ⟨c3, h3, h4⟩ => (by simp only [Value.slice.injEq] at h3; rw [h3.1]; exact h4), hO.out, by omega, hb⟩
        · go_wp2_with fail
          refine (to_any _ _ _).mono ?_
          rintro e w2 ⟨rfl, hx2⟩
          go_wp2_with (at_builtin; refine wpList_append_one (w0 := w) rfl _ _ 52 65 16 _ enc2_len enc2_one (by decide) rfl Try.underlying52 infoSp rfl out (z + 1 + x % 3000, z + 1 + x % 3000 + 1 + y % 3000) (Owns.ext hown hx2) (hb.trans hx2) w2.heap.size 1 rfl rfl rfl (by omega) (by omega) ?_; intro v3 w3 hown3 hb3 _)
          go_roundw
          case rel =>
            refine ⟨k + 1, _, out ++ [(z + 1 + x % 3000, z + 1 + x % 3000 + 1 + y % 3000)], by omega, by go_num, rfl, by omega, by omega, hown3, by simp; omega, ?_, ?_, hb3⟩
            · rcases nil_or_snoc out with rfl | ⟨pre, q, rfl⟩
              · exact ⟨by omega, by omega, by show z + 1 + x % 3000 < z + 1 + x % 3000 + 1 + y % 3000; omega, by show z + 1 + x % 3000 + 1 + y % 3000 ≤ 65536; omega, trivial⟩
              · have := hL.out pre q rfl
                exact Ok.snoc.2 ⟨hO.out, by show q.2 < z + 1 + x % 3000; omega, by show 0 ≤ z + 1 + x % 3000; omega, by show z + 1 + x % 3000 < z + 1 + x % 3000 + 1 + y % 3000; omega, by show z + 1 + x % 3000 + 1 + y % 3000 ≤ 65536; omega⟩
            · intro p q h
              have := List.append_inj' h rfl
              simp only [List.cons.injEq, and_true] at this
              rw [← this.2]
          case measure => simp [intOf]; omega
      · obtain ⟨p2, c2, rfl, h4⟩ := hown.read enc2_len
        have h120 : ¬ 2 * (k : Int) < 120 := by omega
        go_wp2_with fail
        go_ret
        exact ⟨p2, c2, out, rfl, h4, hO.out, by omega, hb⟩
    · have h1 : ¬ 2 * (k : Int) + 1 < (l.length : Int) := by omega
      obtain ⟨p2, c2, rfl, h4⟩ := hown.read enc2_len
      go_wp2_with fail
      go_ret
      exact ⟨p2, c2, out, rfl, h4, hO.out, by omega, hb⟩
end Go.Proofs.Ytbjhehmglahmpaa

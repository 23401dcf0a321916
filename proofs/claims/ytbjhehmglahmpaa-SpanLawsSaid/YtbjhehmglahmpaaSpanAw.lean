import Derived.Test.YtbjhehmglahmpaaSpanWe
namespace Go.Proofs.Ytbjhehmglahmpaa
open Go.RowKit

set_option maxHeartbeats 8000000 in
set_option maxRecDepth 100000 in
theorem awake04 (w0 : World) : Calls Try.prog 26 #[] w0 fun e w' => e = .returned (.bool true) ∧ Ext w0 w' := by
  go_enter Try.func26, Try.ntmps26
  go_wp2_with fail
  refine (to_any 0 10 _).mono ?_
  rintro e w1 ⟨rfl, h1⟩
  have e1 : Ext w0 w1 := h1
  go_wp2_with fail
  refine (to_any 20 30 _).mono ?_
  rintro e w2 ⟨rfl, h2⟩
  have e2 : Ext w1 w2 := h2
  go_wp2_with fail
  refine (set_any _ _ _ _).mono ?_
  rintro e w3 ⟨rfl, h3⟩
  have e3 : Ext w2 w3 := ((Ext.refl _).alloc _).trans h3
  have s3 := (Sl.lit (w := w2) (T := 65) [(0, 10), (20, 30)] rfl).ext h3
  go_wp2_with fail
  refine (to_any 5 25 _).mono ?_
  rintro e w4 ⟨rfl, h4⟩
  have e4 : Ext w3 w4 := h4
  go_wp2_with fail
  refine (set_any _ _ _ _).mono ?_
  rintro e w5 ⟨rfl, h5⟩
  have e5 : Ext w4 w5 := ((Ext.refl _).alloc _).trans h5
  have s5 := (Sl.lit (w := w4) (T := 65) [(5, 25)] rfl).ext h5
  go_wp2_with fail
  refine (union_r [(0, 10), (20, 30)] [(5, 25)] [(0, 30)] 0 _ _ _ _ _ (by decide) (by decide) ((s3.ext e4).ext e5) s5 (by decide) (by decide)).mono ?_
  rintro e w6 ⟨p6, c6, rfl, s6, e6⟩
  go_wp2_with fail
  refine (meet_r [(0, 10), (20, 30)] [(5, 25)] [(5, 10), (20, 25)] 0 _ _ _ _ _ (by decide) (by decide) (((s3.ext e4).ext e5).ext e6) (s5.ext e6) (by decide) (by decide)).mono ?_
  rintro e w7 ⟨p7, c7, rfl, s7, e7⟩
  go_wp2_with fail
  refine (minus_r [(0, 10), (20, 30)] [(5, 25)] [(0, 5), (25, 30)] 0 _ _ _ _ _ (by decide) (by decide) ((((s3.ext e4).ext e5).ext e6).ext e7) ((s5.ext e6).ext e7) (by decide) (by decide)).mono ?_
  rintro e w8 ⟨p8, c8, rfl, s8, e8⟩
  go_wp2_with fail
  refine (bridge_r [(0, 10), (20, 30)] [(0, 30)] 0 _ _ _ 10 (by decide) (by decide) (((((s3.ext e4).ext e5).ext e6).ext e7).ext e8) (by decide)).mono ?_
  rintro e w9 ⟨p9, c9, rfl, s9, e9⟩
  go_wp2_with fail
  refine (bridge_r [(0, 10), (20, 30)] [(0, 10), (20, 30)] 0 _ _ _ 9 (by decide) (by decide) ((((((s3.ext e4).ext e5).ext e6).ext e7).ext e8).ext e9) (by decide)).mono ?_
  rintro e w10 ⟨p10, c10, rfl, s10, e10⟩
  go_wp2_with fail
  refine (to_any 5 8 _).mono ?_
  rintro e w11 ⟨rfl, h11⟩
  have e11 : Ext w10 w11 := h11
  go_wp2_with fail
  refine (to_any 3 5 _).mono ?_
  rintro e w12 ⟨rfl, h12⟩
  have e12 : Ext w11 w12 := h12
  go_wp2_with fail
  refine (to_any 9 9 _).mono ?_
  rintro e w13 ⟨rfl, h13⟩
  have e13 : Ext w12 w13 := h13
  go_wp2_with fail
  refine (set_any _ _ _ _).mono ?_
  rintro e w14 ⟨rfl, h14⟩
  have e14 : Ext w13 w14 := ((Ext.refl _).alloc _).trans h14
  have s14 := (Sl.lit (w := w13) (T := 65) [(5, 8), (3, 5), (9, 9)] rfl).ext h14
  go_wp2_with fail
  refine (make_r [(5, 8), (3, 5), (9, 9)] [(3, 8)] 0 _ _ _ make_ex (by decide) s14 (by decide)).mono ?_
  rintro e w15 ⟨p15, c15, rfl, s15, e15⟩
  go_wp2_with fail
  refine (nth_r [(0, 10), (20, 30)] _ _ _ 10 20 true (by decide) (by decide) ((((((((((((s3.ext e4).ext e5).ext e6).ext e7).ext e8).ext e9).ext e10).ext e11).ext e12).ext e13).ext e14).ext e15) (by decide)).mono ?_
  rintro e w16 ⟨rfl, h16⟩
  have e16 : Ext w15 w16 := h16
  go_wp2_with fail
  refine (nth_r [(0, 10), (20, 30)] _ _ _ 20 0 false (by decide) (by decide) (((((((((((((s3.ext e4).ext e5).ext e6).ext e7).ext e8).ext e9).ext e10).ext e11).ext e12).ext e13).ext e14).ext e15).ext e16) (by decide)).mono ?_
  rintro e w17 ⟨rfl, h17⟩
  have e17 : Ext w16 w17 := h17
  go_wp2_with fail
  refine (days_r [(0, 10), (20, 30)] _ _ _ 20 (by decide) ((((((((((((((s3.ext e4).ext e5).ext e6).ext e7).ext e8).ext e9).ext e10).ext e11).ext e12).ext e13).ext e14).ext e15).ext e16).ext e17) (by decide)).mono ?_
  rintro e w18 ⟨rfl, h18⟩
  have e18 : Ext w17 w18 := h18
  go_wp2_with fail
  refine (before_r [(0, 10), (20, 30)] _ _ _ 15 25 (by decide) (((((((((((((((s3.ext e4).ext e5).ext e6).ext e7).ext e8).ext e9).ext e10).ext e11).ext e12).ext e13).ext e14).ext e15).ext e16).ext e17).ext e18) (by decide)).mono ?_
  rintro e w19 ⟨rfl, h19⟩
  have e19 : Ext w18 w19 := h19
  go_wp2_with fail
  refine (to_any 0 10 _).mono ?_
  rintro e w20 ⟨rfl, h20⟩
  have e20 : Ext w19 w20 := h20
  go_wp2_with fail
  refine (to_any 10 20 _).mono ?_
  rintro e w21 ⟨rfl, h21⟩
  have e21 : Ext w20 w21 := h21
  go_wp2_with fail
  refine (set_any _ _ _ _).mono ?_
  rintro e w22 ⟨rfl, h22⟩
  have e22 : Ext w21 w22 := ((Ext.refl _).alloc _).trans h22
  have s22 := (Sl.lit (w := w21) (T := 65) [(0, 10), (10, 20)] rfl).ext h22
  go_wp2_with fail
  refine (valid_r [(0, 10), (10, 20)] _ _ _ false (by decide) s22 (by decide)).mono ?_
  rintro e w23 ⟨rfl, h23⟩
  have e23 : Ext w22 w23 := h23
  go_wp2_with fail
  refine (to_any 0 30 _).mono ?_
  rintro e w24 ⟨rfl, h24⟩
  have e24 : Ext w23 w24 := h24
  go_wp2_with fail
  refine (set_any _ _ _ _).mono ?_
  rintro e w25 ⟨rfl, h25⟩
  have e25 : Ext w24 w25 := ((Ext.refl _).alloc _).trans h25
  have s25 := (Sl.lit (w := w24) (T := 65) [(0, 30)] rfl).ext h25
  go_wp2_with fail
  refine (same_r [(0, 30)] [(0, 30)] _ _ _ _ _ true (by decide) (((((((((((((((((((s6.ext e7).ext e8).ext e9).ext e10).ext e11).ext e12).ext e13).ext e14).ext e15).ext e16).ext e17).ext e18).ext e19).ext e20).ext e21).ext e22).ext e23).ext e24).ext e25) s25 (by decide)).mono ?_
  rintro e w26 ⟨rfl, h26⟩
  have e26 : Ext w25 w26 := h26
  go_wp2_with fail
  refine (to_any 5 10 _).mono ?_
  rintro e w27 ⟨rfl, h27⟩
  have e27 : Ext w26 w27 := h27
  go_wp2_with fail
  refine (to_any 20 25 _).mono ?_
  rintro e w28 ⟨rfl, h28⟩
  have e28 : Ext w27 w28 := h28
  go_wp2_with fail
  refine (set_any _ _ _ _).mono ?_
  rintro e w29 ⟨rfl, h29⟩
  have e29 : Ext w28 w29 := ((Ext.refl _).alloc _).trans h29
  have s29 := (Sl.lit (w := w28) (T := 65) [(5, 10), (20, 25)] rfl).ext h29
  go_wp2_with fail
  refine (same_r [(5, 10), (20, 25)] [(5, 10), (20, 25)] _ _ _ _ _ true (by decide) ((((((((((((((((((((((s7.ext e8).ext e9).ext e10).ext e11).ext e12).ext e13).ext e14).ext e15).ext e16).ext e17).ext e18).ext e19).ext e20).ext e21).ext e22).ext e23).ext e24).ext e25).ext e26).ext e27).ext e28).ext e29) s29 (by decide)).mono ?_
  rintro e w30 ⟨rfl, h30⟩
  have e30 : Ext w29 w30 := h30
  go_wp2_with fail
  refine (to_any 0 5 _).mono ?_
  rintro e w31 ⟨rfl, h31⟩
  have e31 : Ext w30 w31 := h31
  go_wp2_with fail
  refine (to_any 25 30 _).mono ?_
  rintro e w32 ⟨rfl, h32⟩
  have e32 : Ext w31 w32 := h32
  go_wp2_with fail
  refine (set_any _ _ _ _).mono ?_
  rintro e w33 ⟨rfl, h33⟩
  have e33 : Ext w32 w33 := ((Ext.refl _).alloc _).trans h33
  have s33 := (Sl.lit (w := w32) (T := 65) [(0, 5), (25, 30)] rfl).ext h33
  go_wp2_with fail
  refine (same_r [(0, 5), (25, 30)] [(0, 5), (25, 30)] _ _ _ _ _ true (by decide) (((((((((((((((((((((((((s8.ext e9).ext e10).ext e11).ext e12).ext e13).ext e14).ext e15).ext e16).ext e17).ext e18).ext e19).ext e20).ext e21).ext e22).ext e23).ext e24).ext e25).ext e26).ext e27).ext e28).ext e29).ext e30).ext e31).ext e32).ext e33) s33 (by decide)).mono ?_
  rintro e w34 ⟨rfl, h34⟩
  have e34 : Ext w33 w34 := h34
  go_wp2_with fail
  refine (to_any 0 30 _).mono ?_
  rintro e w35 ⟨rfl, h35⟩
  have e35 : Ext w34 w35 := h35
  go_wp2_with fail
  refine (set_any _ _ _ _).mono ?_
  rintro e w36 ⟨rfl, h36⟩
  have e36 : Ext w35 w36 := ((Ext.refl _).alloc _).trans h36
  have s36 := (Sl.lit (w := w35) (T := 65) [(0, 30)] rfl).ext h36
  go_wp2_with fail
  refine (same_r [(0, 30)] [(0, 30)] _ _ _ _ _ true (by decide) (((((((((((((((((((((((((((s9.ext e10).ext e11).ext e12).ext e13).ext e14).ext e15).ext e16).ext e17).ext e18).ext e19).ext e20).ext e21).ext e22).ext e23).ext e24).ext e25).ext e26).ext e27).ext e28).ext e29).ext e30).ext e31).ext e32).ext e33).ext e34).ext e35).ext e36) s36 (by decide)).mono ?_
  rintro e w37 ⟨rfl, h37⟩
  have e37 : Ext w36 w37 := h37
  go_wp2_with fail
  refine (same_r [(0, 10), (20, 30)] [(0, 10), (20, 30)] _ _ _ _ _ true (by decide) (((((((((((((((((((((((((((s10.ext e11).ext e12).ext e13).ext e14).ext e15).ext e16).ext e17).ext e18).ext e19).ext e20).ext e21).ext e22).ext e23).ext e24).ext e25).ext e26).ext e27).ext e28).ext e29).ext e30).ext e31).ext e32).ext e33).ext e34).ext e35).ext e36).ext e37) ((((((((((((((((((((((((((((((((((s3.ext e4).ext e5).ext e6).ext e7).ext e8).ext e9).ext e10).ext e11).ext e12).ext e13).ext e14).ext e15).ext e16).ext e17).ext e18).ext e19).ext e20).ext e21).ext e22).ext e23).ext e24).ext e25).ext e26).ext e27).ext e28).ext e29).ext e30).ext e31).ext e32).ext e33).ext e34).ext e35).ext e36).ext e37) (by decide)).mono ?_
  rintro e w38 ⟨rfl, h38⟩
  have e38 : Ext w37 w38 := h38
  go_wp2_with fail
  refine (to_any 3 8 _).mono ?_
  rintro e w39 ⟨rfl, h39⟩
  have e39 : Ext w38 w39 := h39
  go_wp2_with fail
  refine (set_any _ _ _ _).mono ?_
  rintro e w40 ⟨rfl, h40⟩
  have e40 : Ext w39 w40 := ((Ext.refl _).alloc _).trans h40
  have s40 := (Sl.lit (w := w39) (T := 65) [(3, 8)] rfl).ext h40
  go_wp2_with fail
  refine (same_r [(3, 8)] [(3, 8)] _ _ _ _ _ true (by decide) (((((((((((((((((((((((((s15.ext e16).ext e17).ext e18).ext e19).ext e20).ext e21).ext e22).ext e23).ext e24).ext e25).ext e26).ext e27).ext e28).ext e29).ext e30).ext e31).ext e32).ext e33).ext e34).ext e35).ext e36).ext e37).ext e38).ext e39).ext e40) s40 (by decide)).mono ?_
  rintro e w41 ⟨rfl, h41⟩
  have e41 : Ext w40 w41 := h41
  go_wp2_with fail
  go_ret
  exact ⟨rfl, (((((((((((((((((((((((((((((((((((((((((Ext.refl _).trans e1).trans e2).trans e3).trans e4).trans e5).trans e6).trans e7).trans e8).trans e9).trans e10).trans e11).trans e12).trans e13).trans e14).trans e15).trans e16).trans e17).trans e18).trans e19).trans e20).trans e21).trans e22).trans e23).trans e24).trans e25).trans e26).trans e27).trans e28).trans e29).trans e30).trans e31).trans e32).trans e33).trans e34).trans e35).trans e36).trans e37).trans e38).trans e39).trans e40).trans e41⟩
end Go.Proofs.Ytbjhehmglahmpaa

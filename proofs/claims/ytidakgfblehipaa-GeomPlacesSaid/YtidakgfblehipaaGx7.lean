-- Written by a program of this session (a print of the loaded functions); Lean checks it.
import Derived.Test.YtidakgfblehipaaGx0
import Derived.Test.YtidakgfblehipaaGx1
import Derived.Test.YtidakgfblehipaaGx4
import Derived.Test.YtidakgfblehipaaGx6
namespace Go.Proofs.Ytidakgfblehipaa.G
open Go.RowKit Go.Proofs.YtidakgfblehipaaW.PrintWords Go.Proofs.YtidakgfblehipaaW.PrintLast Go.Proofs.YtidakgfblehipaaW.PrintMore
attribute [local go_sem] max2_int min2_int max_two min_two max_three min_three max_four min_four   -- for this text's walks alone
set_option linter.unusedVariables false
set_option linter.unusedSimpArgs false

attribute [local go_sem high] eqA41
/-! ### drystonelaw05_GeomPlaces: function 6 -/
mutual
def drystonelaw05_GeomPlaces.l0 : Nat → Int → List Int → Int → Int → Int → Int → Int → Int → Int → Int → Option (Bool)
  | 0, _, _, _, _, _, _, _, _, _, _ => none
  | k + 1, x6, x7, x50, x51, x164000, x164001, x164002, x164003, x164004, x164005 => if x51 < x50 then ((geom_Shape_Member.f x164000 x164001 x164002 x164003 x164004 x164005 x6 x51).bind fun t170 => (if x164000 = 0 then (none) else (if t170 = (Int.tmod (wrap64 ((wrap64 (x6 + 1)) + x51)) x164000) then (if 0 ≤ t170 then (if t170 < (x7.length : Int) then (drystonelaw05_GeomPlaces.l0 k x6 (x7.set (t170 : Int).toNat (wrap64 ((rd x7 t170) + 1))) x50 (wrap64 (x51 + 1)) x164000 x164001 x164002 x164003 x164004 x164005) else (none)) else (none)) else (some false)))) else (drystonelaw05_GeomPlaces.l1 k x6 x7 (x7.length : Int) 0 x164000 x164001 x164002 x164003 x164004 x164005)
def drystonelaw05_GeomPlaces.l1 : Nat → Int → List Int → Int → Int → Int → Int → Int → Int → Int → Int → Option (Bool)
  | 0, _, _, _, _, _, _, _, _, _, _ => none
  | k + 1, x6, x74, x75, x76, x164000, x164001, x164002, x164003, x164004, x164005 => if x76 < x75 then (if 0 ≤ x76 then (if x76 < (x74.length : Int) then (if (rd x74 x76) = 1 then (drystonelaw05_GeomPlaces.l1 k x6 x74 x75 (wrap64 (x76 + 1)) x164000 x164001 x164002 x164003 x164004 x164005) else (some false)) else (none)) else (none)) else (drystonelaw05_GeomPlaces.l2 k x6 (wrap64 (x164000 - 2)) 0 x164000 x164001 x164002 x164003 x164004 x164005)
def drystonelaw05_GeomPlaces.l2 : Nat → Int → Int → Int → Int → Int → Int → Int → Int → Int → Option (Bool)
  | 0, _, _, _, _, _, _, _, _, _ => none
  | k + 1, x6, x85, x86, x164000, x164001, x164002, x164003, x164004, x164005 => if x86 < x85 then ((geom_Shape_Place.f x164000 x164001 x164002 x164003 x164004 x164005 x6 x86).bind fun t174 => (if t174 = (wrap64 ((wrap64 (x6 * (wrap64 (x164000 - 2)))) + x86)) then ((geom_Shape_Spot.f x164000 x164001 x164002 x164003 x164004 x164005 t174).bind fun bt175 => (if (!(bt175.1 == x6) || (!(bt175.2 == (wrap64 (x86 + 1))))) = true then (some false) else (drystonelaw05_GeomPlaces.l2 k x6 x85 (wrap64 (x86 + 1)) x164000 x164001 x164002 x164003 x164004 x164005))) else (some false))) else (some true)
end
def drystonelaw05_GeomPlaces.f (k : Nat) (a0_0 : Int) (a0_1 : Int) (a0_2 : Int) (a0_3 : Int) (a0_4 : Int) (a0_5 : Int) (a1 : Int) : Option (Bool) := (drystonelaw05_Awake.f k).bind fun t156 => (if t156 = true then ((drystonelaw05_Shape.f a0_0 a0_1 a0_2 a0_3 a0_4 a0_5).bind fun bt157 => (if (wrap64 (bt157.2.2.1 * bt157.2.2.2.1)) = 0 then (none) else (if 0 ≤ bt157.1 then (if (bt157.1 : Int).toNat ≤ 35184372088832 then ((some (List.replicate (bt157.1 : Int).toNat 0 : List Int)).bind fun y164 => ((geom_Shape_Parity.f bt157.1 bt157.2.1 bt157.2.2.1 bt157.2.2.2.1 bt157.2.2.2.2.1 bt157.2.2.2.2.2 (Int.tmod (wrap64 (a1)) (wrap64 (bt157.2.2.1 * bt157.2.2.2.1)))).bind fun t167 => (if bt157.1 = 0 then (none) else (if t167 = (Int.tmod (Int.tmod (wrap64 (a1)) (wrap64 (bt157.2.2.1 * bt157.2.2.2.1))) bt157.1) then (if 0 ≤ (Int.tmod (Int.tmod (wrap64 (a1)) (wrap64 (bt157.2.2.1 * bt157.2.2.2.1))) bt157.1) then (if (Int.tmod (Int.tmod (wrap64 (a1)) (wrap64 (bt157.2.2.1 * bt157.2.2.2.1))) bt157.1) < (y164.length : Int) then (drystonelaw05_GeomPlaces.l0 k (Int.tmod (wrap64 (a1)) (wrap64 (bt157.2.2.1 * bt157.2.2.2.1))) (y164.set ((Int.tmod (Int.tmod (wrap64 (a1)) (wrap64 (bt157.2.2.1 * bt157.2.2.2.1))) bt157.1) : Int).toNat (wrap64 ((rd y164 (Int.tmod (Int.tmod (wrap64 (a1)) (wrap64 (bt157.2.2.1 * bt157.2.2.2.1))) bt157.1)) + 1))) (wrap64 (bt157.1 - 1)) 0 bt157.1 bt157.2.1 bt157.2.2.1 bt157.2.2.2.1 bt157.2.2.2.2.1 bt157.2.2.2.2.2) else (none)) else (none)) else (some false))))) else (none)) else (none)))) else (some false))
theorem drystonelaw05_GeomPlaces.mono_l : ∀ k, (∀ y0 y1 y2 y3 y4 y5 y6 y7 y8 y9, LeO (drystonelaw05_GeomPlaces.l0 k y0 y1 y2 y3 y4 y5 y6 y7 y8 y9) (drystonelaw05_GeomPlaces.l0 (k + 1) y0 y1 y2 y3 y4 y5 y6 y7 y8 y9)) ∧ (∀ y0 y1 y2 y3 y4 y5 y6 y7 y8 y9, LeO (drystonelaw05_GeomPlaces.l1 k y0 y1 y2 y3 y4 y5 y6 y7 y8 y9) (drystonelaw05_GeomPlaces.l1 (k + 1) y0 y1 y2 y3 y4 y5 y6 y7 y8 y9)) ∧ (∀ y0 y1 y2 y3 y4 y5 y6 y7 y8, LeO (drystonelaw05_GeomPlaces.l2 k y0 y1 y2 y3 y4 y5 y6 y7 y8) (drystonelaw05_GeomPlaces.l2 (k + 1) y0 y1 y2 y3 y4 y5 y6 y7 y8))
  | 0 => ⟨fun _ _ _ _ _ _ _ _ _ _ r h => by simp [drystonelaw05_GeomPlaces.l0] at h, fun _ _ _ _ _ _ _ _ _ _ r h => by simp [drystonelaw05_GeomPlaces.l1] at h, fun _ _ _ _ _ _ _ _ _ r h => by simp [drystonelaw05_GeomPlaces.l2] at h⟩
  | k + 1 => by
    obtain ⟨ih0, ih1, ih2⟩ := drystonelaw05_GeomPlaces.mono_l k
    refine ⟨?_, ?_, ?_⟩
    · intro y0 y1 y2 y3 y4 y5 y6 y7 y8 y9
      unfold drystonelaw05_GeomPlaces.l0
      repeat' first
      | (with_reducible exact ih0 _ _ _ _ _ _ _ _ _ _)
      | (with_reducible exact ih1 _ _ _ _ _ _ _ _ _ _)
      | (with_reducible exact ih2 _ _ _ _ _ _ _ _ _)
      | (with_reducible exact drystonelaw05_Awake.mono _)
      | (with_reducible exact LeO.refl _)
      | (with_reducible exact LeO.none _)
      | (with_reducible refine LeO.ite ?_ ?_)
      | (with_reducible refine LeO.bind ?_ (fun _ => ?_))
      | exact ih0 _ _ _ _ _ _ _ _ _ _
      | exact ih1 _ _ _ _ _ _ _ _ _ _
      | exact ih2 _ _ _ _ _ _ _ _ _
      | exact drystonelaw05_Awake.mono _
      | exact LeO.none _
      | refine LeO.ite ?_ ?_
      | refine LeO.bind ?_ (fun _ => ?_)
    · intro y0 y1 y2 y3 y4 y5 y6 y7 y8 y9
      unfold drystonelaw05_GeomPlaces.l1
      repeat' first
      | (with_reducible exact ih0 _ _ _ _ _ _ _ _ _ _)
      | (with_reducible exact ih1 _ _ _ _ _ _ _ _ _ _)
      | (with_reducible exact ih2 _ _ _ _ _ _ _ _ _)
      | (with_reducible exact drystonelaw05_Awake.mono _)
      | (with_reducible exact LeO.refl _)
      | (with_reducible exact LeO.none _)
      | (with_reducible refine LeO.ite ?_ ?_)
      | (with_reducible refine LeO.bind ?_ (fun _ => ?_))
      | exact ih0 _ _ _ _ _ _ _ _ _ _
      | exact ih1 _ _ _ _ _ _ _ _ _ _
      | exact ih2 _ _ _ _ _ _ _ _ _
      | exact drystonelaw05_Awake.mono _
      | exact LeO.none _
      | refine LeO.ite ?_ ?_
      | refine LeO.bind ?_ (fun _ => ?_)
    · intro y0 y1 y2 y3 y4 y5 y6 y7 y8
      unfold drystonelaw05_GeomPlaces.l2
      repeat' first
      | (with_reducible exact ih0 _ _ _ _ _ _ _ _ _ _)
      | (with_reducible exact ih1 _ _ _ _ _ _ _ _ _ _)
      | (with_reducible exact ih2 _ _ _ _ _ _ _ _ _)
      | (with_reducible exact drystonelaw05_Awake.mono _)
      | (with_reducible exact LeO.refl _)
      | (with_reducible exact LeO.none _)
      | (with_reducible refine LeO.ite ?_ ?_)
      | (with_reducible refine LeO.bind ?_ (fun _ => ?_))
      | exact ih0 _ _ _ _ _ _ _ _ _ _
      | exact ih1 _ _ _ _ _ _ _ _ _ _
      | exact ih2 _ _ _ _ _ _ _ _ _
      | exact drystonelaw05_Awake.mono _
      | exact LeO.none _
      | refine LeO.ite ?_ ?_
      | refine LeO.bind ?_ (fun _ => ?_)
theorem drystonelaw05_GeomPlaces.mono : ∀ a0 a1 a2 a3 a4 a5 a6 k, LeO (drystonelaw05_GeomPlaces.f k a0 a1 a2 a3 a4 a5 a6) (drystonelaw05_GeomPlaces.f (k + 1) a0 a1 a2 a3 a4 a5 a6) := by
  intro a0 a1 a2 a3 a4 a5 a6 k
  obtain ⟨ih0, ih1, ih2⟩ := drystonelaw05_GeomPlaces.mono_l k
  unfold drystonelaw05_GeomPlaces.f
  repeat' first
      | (with_reducible exact ih0 _ _ _ _ _ _ _ _ _ _)
      | (with_reducible exact ih1 _ _ _ _ _ _ _ _ _ _)
      | (with_reducible exact ih2 _ _ _ _ _ _ _ _ _)
      | (with_reducible exact drystonelaw05_Awake.mono _)
      | (with_reducible exact LeO.refl _)
      | (with_reducible exact LeO.none _)
      | (with_reducible refine LeO.ite ?_ ?_)
      | (with_reducible refine LeO.bind ?_ (fun _ => ?_))
      | exact ih0 _ _ _ _ _ _ _ _ _ _
      | exact ih1 _ _ _ _ _ _ _ _ _ _
      | exact ih2 _ _ _ _ _ _ _ _ _
      | exact drystonelaw05_Awake.mono _
      | exact LeO.none _
      | refine LeO.ite ?_ ?_
      | refine LeO.bind ?_ (fun _ => ?_)
set_option maxHeartbeats 8000000 in
set_option maxRecDepth 100000 in
theorem drystonelaw05_GeomPlaces.calls (k : Nat) (a0_0 : Int) (a0_1 : Int) (a0_2 : Int) (a0_3 : Int) (a0_4 : Int) (a0_5 : Int) (a1 : Int) (r : Bool) (w : World) (h : drystonelaw05_GeomPlaces.f k a0_0 a0_1 a0_2 a0_3 a0_4 a0_5 a1 = some r) :
    Calls Try.prog 6 #[.agg #[.int .u8 a0_0, .int .u8 a0_1, .int .u8 a0_2, .int .u8 a0_3, .int .u8 a0_4, .int .u8 a0_5], .int .u8 a1] w fun e w' => e = .returned (.bool r) ∧ Below w.heap.size w w' := by
  have hu29 := Try.underlying29
  have hu23 := Try.underlying23
  have hu41 := Try.underlying41
  have HB := Aside0.mk (Below.refl w.heap.size w)
  have H : ((drystonelaw05_Awake.f k).bind fun t156 => (if t156 = true then ((drystonelaw05_Shape.f a0_0 a0_1 a0_2 a0_3 a0_4 a0_5).bind fun bt157 => (if (wrap64 (bt157.2.2.1 * bt157.2.2.2.1)) = 0 then (none) else (if 0 ≤ bt157.1 then (if (bt157.1 : Int).toNat ≤ 35184372088832 then ((some (List.replicate (bt157.1 : Int).toNat 0 : List Int)).bind fun y164 => ((geom_Shape_Parity.f bt157.1 bt157.2.1 bt157.2.2.1 bt157.2.2.2.1 bt157.2.2.2.2.1 bt157.2.2.2.2.2 (Int.tmod (wrap64 (a1)) (wrap64 (bt157.2.2.1 * bt157.2.2.2.1)))).bind fun t167 => (if bt157.1 = 0 then (none) else (if t167 = (Int.tmod (Int.tmod (wrap64 (a1)) (wrap64 (bt157.2.2.1 * bt157.2.2.2.1))) bt157.1) then (if 0 ≤ (Int.tmod (Int.tmod (wrap64 (a1)) (wrap64 (bt157.2.2.1 * bt157.2.2.2.1))) bt157.1) then (if (Int.tmod (Int.tmod (wrap64 (a1)) (wrap64 (bt157.2.2.1 * bt157.2.2.2.1))) bt157.1) < (y164.length : Int) then (drystonelaw05_GeomPlaces.l0 k (Int.tmod (wrap64 (a1)) (wrap64 (bt157.2.2.1 * bt157.2.2.2.1))) (y164.set ((Int.tmod (Int.tmod (wrap64 (a1)) (wrap64 (bt157.2.2.1 * bt157.2.2.2.1))) bt157.1) : Int).toNat (wrap64 ((rd y164 (Int.tmod (Int.tmod (wrap64 (a1)) (wrap64 (bt157.2.2.1 * bt157.2.2.2.1))) bt157.1)) + 1))) (wrap64 (bt157.1 - 1)) 0 bt157.1 bt157.2.1 bt157.2.2.1 bt157.2.2.2.1 bt157.2.2.2.2.1 bt157.2.2.2.2.2) else (none)) else (none)) else (some false))))) else (none)) else (none)))) else (some false))) = some r := h
  clear h
  replace H := Option.bind_eq_some_iff.mp H
  obtain ⟨t156, A30, H⟩ := H
  replace H : (if t156 = true then ((drystonelaw05_Shape.f a0_0 a0_1 a0_2 a0_3 a0_4 a0_5).bind fun bt157 => (if (wrap64 (bt157.2.2.1 * bt157.2.2.2.1)) = 0 then (none) else (if 0 ≤ bt157.1 then (if (bt157.1 : Int).toNat ≤ 35184372088832 then ((some (List.replicate (bt157.1 : Int).toNat 0 : List Int)).bind fun y164 => ((geom_Shape_Parity.f bt157.1 bt157.2.1 bt157.2.2.1 bt157.2.2.2.1 bt157.2.2.2.2.1 bt157.2.2.2.2.2 (Int.tmod (wrap64 (a1)) (wrap64 (bt157.2.2.1 * bt157.2.2.2.1)))).bind fun t167 => (if bt157.1 = 0 then (none) else (if t167 = (Int.tmod (Int.tmod (wrap64 (a1)) (wrap64 (bt157.2.2.1 * bt157.2.2.2.1))) bt157.1) then (if 0 ≤ (Int.tmod (Int.tmod (wrap64 (a1)) (wrap64 (bt157.2.2.1 * bt157.2.2.2.1))) bt157.1) then (if (Int.tmod (Int.tmod (wrap64 (a1)) (wrap64 (bt157.2.2.1 * bt157.2.2.2.1))) bt157.1) < (y164.length : Int) then (drystonelaw05_GeomPlaces.l0 k (Int.tmod (wrap64 (a1)) (wrap64 (bt157.2.2.1 * bt157.2.2.2.1))) (y164.set ((Int.tmod (Int.tmod (wrap64 (a1)) (wrap64 (bt157.2.2.1 * bt157.2.2.2.1))) bt157.1) : Int).toNat (wrap64 ((rd y164 (Int.tmod (Int.tmod (wrap64 (a1)) (wrap64 (bt157.2.2.1 * bt157.2.2.2.1))) bt157.1)) + 1))) (wrap64 (bt157.1 - 1)) 0 bt157.1 bt157.2.1 bt157.2.2.1 bt157.2.2.2.1 bt157.2.2.2.2.1 bt157.2.2.2.2.2) else (none)) else (none)) else (some false))))) else (none)) else (none)))) else (some false)) = some r := H
  have A3 := Aside0.mk A30
  clear A30
  by_cases c4 : t156 = true
  · subst c4
    have H1 : ((drystonelaw05_Shape.f a0_0 a0_1 a0_2 a0_3 a0_4 a0_5).bind fun bt157 => (if (wrap64 (bt157.2.2.1 * bt157.2.2.2.1)) = 0 then (none) else (if 0 ≤ bt157.1 then (if (bt157.1 : Int).toNat ≤ 35184372088832 then ((some (List.replicate (bt157.1 : Int).toNat 0 : List Int)).bind fun y164 => ((geom_Shape_Parity.f bt157.1 bt157.2.1 bt157.2.2.1 bt157.2.2.2.1 bt157.2.2.2.2.1 bt157.2.2.2.2.2 (Int.tmod (wrap64 (a1)) (wrap64 (bt157.2.2.1 * bt157.2.2.2.1)))).bind fun t167 => (if bt157.1 = 0 then (none) else (if t167 = (Int.tmod (Int.tmod (wrap64 (a1)) (wrap64 (bt157.2.2.1 * bt157.2.2.2.1))) bt157.1) then (if 0 ≤ (Int.tmod (Int.tmod (wrap64 (a1)) (wrap64 (bt157.2.2.1 * bt157.2.2.2.1))) bt157.1) then (if (Int.tmod (Int.tmod (wrap64 (a1)) (wrap64 (bt157.2.2.1 * bt157.2.2.2.1))) bt157.1) < (y164.length : Int) then (drystonelaw05_GeomPlaces.l0 k (Int.tmod (wrap64 (a1)) (wrap64 (bt157.2.2.1 * bt157.2.2.2.1))) (y164.set ((Int.tmod (Int.tmod (wrap64 (a1)) (wrap64 (bt157.2.2.1 * bt157.2.2.2.1))) bt157.1) : Int).toNat (wrap64 ((rd y164 (Int.tmod (Int.tmod (wrap64 (a1)) (wrap64 (bt157.2.2.1 * bt157.2.2.2.1))) bt157.1)) + 1))) (wrap64 (bt157.1 - 1)) 0 bt157.1 bt157.2.1 bt157.2.2.1 bt157.2.2.2.1 bt157.2.2.2.2.1 bt157.2.2.2.2.2) else (none)) else (none)) else (some false))))) else (none)) else (none)))) = some r := by rw [if_pos rfl] at H; exact H
    clear H
    have H := H1
    clear H1
    replace H := Option.bind_eq_some_iff.mp H
    obtain ⟨⟨t157, t158, t159, t160, t161, t162⟩, A50, H⟩ := H
    replace H : (if (wrap64 (t159 * t160)) = 0 then (none) else (if 0 ≤ t157 then (if (t157 : Int).toNat ≤ 35184372088832 then ((some (List.replicate (t157 : Int).toNat 0 : List Int)).bind fun y164 => ((geom_Shape_Parity.f t157 t158 t159 t160 t161 t162 (Int.tmod (wrap64 (a1)) (wrap64 (t159 * t160)))).bind fun t167 => (if t157 = 0 then (none) else (if t167 = (Int.tmod (Int.tmod (wrap64 (a1)) (wrap64 (t159 * t160))) t157) then (if 0 ≤ (Int.tmod (Int.tmod (wrap64 (a1)) (wrap64 (t159 * t160))) t157) then (if (Int.tmod (Int.tmod (wrap64 (a1)) (wrap64 (t159 * t160))) t157) < (y164.length : Int) then (drystonelaw05_GeomPlaces.l0 k (Int.tmod (wrap64 (a1)) (wrap64 (t159 * t160))) (y164.set ((Int.tmod (Int.tmod (wrap64 (a1)) (wrap64 (t159 * t160))) t157) : Int).toNat (wrap64 ((rd y164 (Int.tmod (Int.tmod (wrap64 (a1)) (wrap64 (t159 * t160))) t157)) + 1))) (wrap64 (t157 - 1)) 0 t157 t158 t159 t160 t161 t162) else (none)) else (none)) else (some false))))) else (none)) else (none))) = some r := H
    have A5 := Aside0.mk A50
    clear A50
    by_cases c6 : (wrap64 (t159 * t160)) = 0
    · rw [if_pos c6] at H
      exact absurd H (by simp)
    · rw [if_neg c6] at H
      have c6b0 : ((wrap64 (t159 * t160)) == 0) = false := beq_eq_false_iff_ne.mpr c6
      have c6b1 : ((wrap64 (t159 * t160)) != 0) = true := bne_iff_ne.mpr c6
      by_cases c7 : 0 ≤ t157
      · rw [if_pos c7] at H
        have c7b0 := eq_true c7
        have c7b1 : decide (0 ≤ t157) = true := decide_eq_true c7
        clear c7
        by_cases c8 : (t157 : Int).toNat ≤ 35184372088832
        · rw [if_pos c8] at H
          have c8b0 := eq_true c8
          have c8b1 : decide ((t157 : Int).toNat ≤ 35184372088832) = true := decide_eq_true c8
          clear c8
          obtain ⟨y164, hy164⟩ : ∃ y_ : List Int, y_ = (List.replicate (t157 : Int).toNat 0) := ⟨_, rfl⟩
          replace H : ((geom_Shape_Parity.f t157 t158 t159 t160 t161 t162 (Int.tmod (wrap64 (a1)) (wrap64 (t159 * t160)))).bind fun t167 => (if t157 = 0 then (none) else (if t167 = (Int.tmod (Int.tmod (wrap64 (a1)) (wrap64 (t159 * t160))) t157) then (if 0 ≤ (Int.tmod (Int.tmod (wrap64 (a1)) (wrap64 (t159 * t160))) t157) then (if (Int.tmod (Int.tmod (wrap64 (a1)) (wrap64 (t159 * t160))) t157) < (y164.length : Int) then (drystonelaw05_GeomPlaces.l0 k (Int.tmod (wrap64 (a1)) (wrap64 (t159 * t160))) (y164.set ((Int.tmod (Int.tmod (wrap64 (a1)) (wrap64 (t159 * t160))) t157) : Int).toNat (wrap64 ((rd y164 (Int.tmod (Int.tmod (wrap64 (a1)) (wrap64 (t159 * t160))) t157)) + 1))) (wrap64 (t157 - 1)) 0 t157 t158 t159 t160 t161 t162) else (none)) else (none)) else (some false)))) = some r := by first | (rw [hy164]; with_reducible exact H) | (have H2_ := (Option.bind_some _ _).symm.trans H; rw [hy164]; with_reducible exact H2_) | (have H2_ := (Option.bind_some _ _).symm.trans H; with_reducible exact H2_) | with_reducible exact H | (rw [hy164]; exact H) | exact H
          have Ny164 := Aside0.mk hy164
          clear hy164
          replace H := Option.bind_eq_some_iff.mp H
          obtain ⟨t167, A90, H⟩ := H
          replace H : (if t157 = 0 then (none) else (if t167 = (Int.tmod (Int.tmod (wrap64 (a1)) (wrap64 (t159 * t160))) t157) then (if 0 ≤ (Int.tmod (Int.tmod (wrap64 (a1)) (wrap64 (t159 * t160))) t157) then (if (Int.tmod (Int.tmod (wrap64 (a1)) (wrap64 (t159 * t160))) t157) < (y164.length : Int) then (drystonelaw05_GeomPlaces.l0 k (Int.tmod (wrap64 (a1)) (wrap64 (t159 * t160))) (y164.set ((Int.tmod (Int.tmod (wrap64 (a1)) (wrap64 (t159 * t160))) t157) : Int).toNat (wrap64 ((rd y164 (Int.tmod (Int.tmod (wrap64 (a1)) (wrap64 (t159 * t160))) t157)) + 1))) (wrap64 (t157 - 1)) 0 t157 t158 t159 t160 t161 t162) else (none)) else (none)) else (some false))) = some r := H
          have A9 := Aside0.mk A90
          clear A90
          by_cases c10 : t157 = 0
          · rw [if_pos c10] at H
            exact absurd H (by simp)
          · rw [if_neg c10] at H
            have c10b0 : (t157 == 0) = false := beq_eq_false_iff_ne.mpr c10
            have c10b1 : (t157 != 0) = true := bne_iff_ne.mpr c10
            by_cases c11 : t167 = (Int.tmod (Int.tmod (wrap64 (a1)) (wrap64 (t159 * t160))) t157)
            · rw [if_pos c11] at H
              have c11b0 : (t167 == (Int.tmod (Int.tmod (wrap64 (a1)) (wrap64 (t159 * t160))) t157)) = true := beq_iff_eq.mpr c11
              have c11b1 : (t167 != (Int.tmod (Int.tmod (wrap64 (a1)) (wrap64 (t159 * t160))) t157)) = false := bne_eq_false_iff_eq.mpr c11
              clear c11
              obtain ⟨ji12, hji12⟩ : ∃ j_ : Int, (Int.tmod (Int.tmod (wrap64 (a1)) (wrap64 (t159 * t160))) t157) = j_ := ⟨_, rfl⟩
              replace H : (if 0 ≤ (ji12) then (if (ji12) < (y164.length : Int) then (drystonelaw05_GeomPlaces.l0 k (Int.tmod (wrap64 (a1)) (wrap64 (t159 * t160))) (y164.set ((ji12) : Int).toNat (wrap64 ((rd y164 (ji12)) + 1))) (wrap64 (t157 - 1)) 0 t157 t158 t159 t160 t161 t162) else (none)) else (none)) = some r := by first | (rw [hji12] at H; exact H) | (simp only [hji12] at H ⊢; exact H)
              (try rw [hji12] at c11b0)
              (try rw [hji12] at c11b1)
              (try rw [hji12] at A3)
              (try rw [hji12] at A5)
              (try rw [hji12] at A9)
              by_cases c13 : 0 ≤ (ji12)
              · rw [if_pos c13] at H
                have c13b0 : decide (0 ≤ (ji12)) = true := decide_eq_true c13
                clear c13
                by_cases c14 : (ji12) < (y164.length : Int)
                · rw [if_pos c14] at H
                  have c14b0 : decide ((ji12) < (y164.length : Int)) = true := decide_eq_true c14
                  clear c14
                  obtain ⟨y169, hy169⟩ : ∃ y_ : List Int, y_ = (y164.set ((ji12) : Int).toNat (wrap64 ((rd y164 (ji12)) + 1))) := ⟨_, rfl⟩
                  replace H : (drystonelaw05_GeomPlaces.l0 k (Int.tmod (wrap64 (a1)) (wrap64 (t159 * t160))) y169 (wrap64 (t157 - 1)) 0 t157 t158 t159 t160 t161 t162) = some r := by first | (rw [hy169]; with_reducible exact H) | (have H2_ := (Option.bind_some _ _).symm.trans H; rw [hy169]; with_reducible exact H2_) | (have H2_ := (Option.bind_some _ _).symm.trans H; with_reducible exact H2_) | with_reducible exact H | (rw [hy169]; exact H) | exact H
                  have Ny169 := Aside0.mk hy169
                  clear hy169
                  have H' := Aside0.mk H
                  clear H
                  go_enter Try.func6, Try.ntmps6
                  go_wp2_with (first | ((with_reducible refine gate_dst (N := 2) rfl ?_); refine box_event ?hg (N := 2) ?hd (cs := #[.int .u8 a0_0, .int .u8 a0_1, .int .u8 a0_2, .int .u8 a0_3, .int .u8 a0_4, .int .u8 a0_5]) (t := 29) ?hr ?_; (case hd => rfl); (case hg => rfl); (case hr => first | (go_simp; done) | (go_simp; rfl)); intro gb155 hg w16 hbox hb; have n0_ := Aside0.mk (below_step (by repeat (first | (with_reducible first | exact HB.out | apply below_alloc | apply pw_below_drewN | apply below_drew1) | exact HB.out)) hb); have n1_ := Aside0.mk (hbox); have n2_ := Aside0.mk ((by rw [hg]; exact (below_size (by repeat (first | (with_reducible first | exact HB.out | apply below_alloc | apply pw_below_drewN | apply below_drew1) | exact HB.out))) : w.heap.size ≤ gb155)); have n3_ := Aside0.mk ((by rw [hg]; exact (below_size (by repeat (first | (with_reducible first | exact HB.out | apply below_alloc | apply pw_below_drewN | apply below_drew1) | exact HB.out))) : w.heap.size ≤ gb155)); clear HB; have HB := n0_; have BK155 := n1_; have GW155 := n2_; have GE155 := n3_; clear n0_ n1_ n2_ n3_; clear hb hbox hg) | ((with_reducible refine gate_callee (f := 10) rfl ?_); refine goesL_ (some 15) rfl rfl Try.func10 (by kernel_rfl) rfl #[] rfl (by (try simp only [List.map_toArray, List.map_cons, List.map_nil]); first | done | rfl | (simp only [List.length_drop, List.length_take]; rfl)) ?_; (with_reducible refine (drystonelaw05_Awake.calls k  true _ A3.out).mono ?_); rintro e w17 ⟨rfl, hb⟩; refine ⟨_, rfl, ?_⟩; have n0_ := Aside0.mk (blk_below (g := gb155) (o := .cells #[.int .u8 a0_0, .int .u8 a0_1, .int .u8 a0_2, .int .u8 a0_3, .int .u8 a0_4, .int .u8 a0_5] 29 (0, 0)) (by (with_reducible repeat (first | refine blk_drewN ?_ _ | refine blk_drew ?_ | refine blk_alloc ?_ _)); exact BK155.out) hb); have n1_ := Aside0.mk (below_step (by repeat (first | (with_reducible first | exact HB.out | apply below_alloc | apply pw_below_drewN | apply below_drew1 | refine below_set ?_ GE155.out) | exact HB.out)) hb); clear BK155; clear HB; have BK155 := n0_; have HB := n1_; clear n0_ n1_; (try clear hb); (try clear hb2); (try clear hk); (try clear hi); have hcz18_0 : w17.cell? ⟨gb155, 0, none⟩ = some (.int .u8 a0_0) := (blk_cell BK155.out 0).trans rfl; have hcz18_1 : w17.cell? ⟨gb155, 1, none⟩ = some (.int .u8 a0_1) := (blk_cell BK155.out 1).trans rfl; have hcz18_2 : w17.cell? ⟨gb155, 2, none⟩ = some (.int .u8 a0_2) := (blk_cell BK155.out 2).trans rfl; have hcz18_3 : w17.cell? ⟨gb155, 3, none⟩ = some (.int .u8 a0_3) := (blk_cell BK155.out 3).trans rfl; have hcz18_4 : w17.cell? ⟨gb155, 4, none⟩ = some (.int .u8 a0_4) := (blk_cell BK155.out 4).trans rfl; have hcz18_5 : w17.cell? ⟨gb155, 5, none⟩ = some (.int .u8 a0_5) := (blk_cell BK155.out 5).trans rfl; have hfz18_0 := blk_frozen BK155.out 0; have hfz18_1 := blk_frozen BK155.out 1; have hfz18_2 := blk_frozen BK155.out 2; have hfz18_3 := blk_frozen BK155.out 3; have hfz18_4 := blk_frozen BK155.out 4; have hfz18_5 := blk_frozen BK155.out 5) | ((with_reducible refine gate_callee (f := 13) rfl ?_); refine goesL_ (some 18) rfl rfl Try.func13 (by kernel_rfl) rfl #[.agg #[.int .u8 a0_0, .int .u8 a0_1, .int .u8 a0_2, .int .u8 a0_3, .int .u8 a0_4, .int .u8 a0_5]] rfl (by (try simp only [List.map_toArray, List.map_cons, List.map_nil]); first | done | rfl | (simp only [List.length_drop, List.length_take]; rfl)) ?_; (with_reducible refine (drystonelaw05_Shape.calls a0_0 a0_1 a0_2 a0_3 a0_4 a0_5 t157 t158 t159 t160 t161 t162 _ A5.out).mono ?_); rintro e w19 ⟨rfl, hb⟩; refine ⟨_, rfl, ?_⟩; have n0_ := Aside0.mk (blk_below (g := gb155) (o := .cells #[.int .u8 a0_0, .int .u8 a0_1, .int .u8 a0_2, .int .u8 a0_3, .int .u8 a0_4, .int .u8 a0_5] 29 (0, 0)) (by (with_reducible repeat (first | refine blk_drewN ?_ _ | refine blk_drew ?_ | refine blk_alloc ?_ _)); exact BK155.out) hb); have n1_ := Aside0.mk (below_step (by repeat (first | (with_reducible first | exact HB.out | apply below_alloc | apply pw_below_drewN | apply below_drew1 | refine below_set ?_ GE155.out) | exact HB.out)) hb); clear BK155; clear HB; have BK155 := n0_; have HB := n1_; clear n0_ n1_; (try clear hb); (try clear hb2); (try clear hk); (try clear hi)) | ((with_reducible refine gate_dst (N := 5) rfl ?_); refine box_event ?hg (N := 5) ?hd (cs := #[.int .i64 0, .int .i64 0, .int .i64 0, .int .i64 0, .int .i64 0, .int .i64 0]) (t := 23) ?hr ?_; (case hd => rfl); (case hg => rfl); (case hr => first | (go_simp; done) | (go_simp; rfl)); intro gb163 hg w20 hbox hb; have n0_ := Aside0.mk (blk_below (g := gb155) (o := .cells #[.int .u8 a0_0, .int .u8 a0_1, .int .u8 a0_2, .int .u8 a0_3, .int .u8 a0_4, .int .u8 a0_5] 29 (0, 0)) (by (with_reducible repeat (first | refine blk_drewN ?_ _ | refine blk_drew ?_ | refine blk_alloc ?_ _)); exact BK155.out) hb); have n1_ := Aside0.mk (below_step (by repeat (first | (with_reducible first | exact HB.out | apply below_alloc | apply pw_below_drewN | apply below_drew1 | refine below_set ?_ GE155.out) | exact HB.out)) hb); have n2_ := Aside0.mk (hbox); have n3_ := Aside0.mk ((by rw [hg]; exact (below_size (by repeat (first | (with_reducible first | exact HB.out | apply below_alloc | apply pw_below_drewN | apply below_drew1 | refine below_set ?_ GE155.out) | exact HB.out))) : w.heap.size ≤ gb163)); have n4_ := Aside0.mk ((by rw [hg]; exact (below_size (by repeat (first | (with_reducible first | exact HB.out | apply below_alloc | apply pw_below_drewN | apply below_drew1 | refine below_set ?_ GE155.out) | exact HB.out))) : w.heap.size ≤ gb163)); have n5_ := Aside0.mk ((by rw [hg]; exact Nat.ne_of_lt (blk_lt (g := gb155) (o := .cells #[.int .u8 a0_0, .int .u8 a0_1, .int .u8 a0_2, .int .u8 a0_3, .int .u8 a0_4, .int .u8 a0_5] 29 (0, 0)) (by (with_reducible repeat (first | refine blk_drewN ?_ _ | refine blk_drew ?_ | refine blk_alloc ?_ _)); exact BK155.out)) : gb155 ≠ gb163)); have n6_ := Aside0.mk ((by rw [hg]; exact Nat.ne_of_gt (blk_lt (g := gb155) (o := .cells #[.int .u8 a0_0, .int .u8 a0_1, .int .u8 a0_2, .int .u8 a0_3, .int .u8 a0_4, .int .u8 a0_5] 29 (0, 0)) (by (with_reducible repeat (first | refine blk_drewN ?_ _ | refine blk_drew ?_ | refine blk_alloc ?_ _)); exact BK155.out)) : gb163 ≠ gb155)); clear BK155; clear HB; have BK155 := n0_; have HB := n1_; have BK163 := n2_; have GW163 := n3_; have GE163 := n4_; have NB155_163 := n5_; have NB163_155 := n6_; clear n0_ n1_ n2_ n3_ n4_ n5_ n6_; clear hb hbox hg; have hnb21 := NB163_155.out; have hnc21 := NB155_163.out; have hcz22_0 : w20.cell? ⟨gb163, 0, none⟩ = some (.int .i64 0) := (blk_cell BK163.out 0).trans rfl; have hcz22_1 : w20.cell? ⟨gb163, 1, none⟩ = some (.int .i64 0) := (blk_cell BK163.out 1).trans rfl; have hcz22_2 : w20.cell? ⟨gb163, 2, none⟩ = some (.int .i64 0) := (blk_cell BK163.out 2).trans rfl; have hcz22_3 : w20.cell? ⟨gb163, 3, none⟩ = some (.int .i64 0) := (blk_cell BK163.out 3).trans rfl; have hcz22_4 : w20.cell? ⟨gb163, 4, none⟩ = some (.int .i64 0) := (blk_cell BK163.out 4).trans rfl; have hcz22_5 : w20.cell? ⟨gb163, 5, none⟩ = some (.int .i64 0) := (blk_cell BK163.out 5).trans rfl; have hfz22_0 := blk_frozen BK163.out 0; have hfz22_1 := blk_frozen BK163.out 1; have hfz22_2 := blk_frozen BK163.out 2; have hfz22_3 := blk_frozen BK163.out 3; have hfz22_4 := blk_frozen BK163.out 4; have hfz22_5 := blk_frozen BK163.out 5) | ((with_reducible refine gate_dst (N := 29) rfl ?_); refine Kd.R_make (Kd.int .i64) _ 3 rfl (N := 29) rfl 35 _ _ rfl t157 rfl rfl Try.underlying35 (.int .i64 0) 8 info3 rfl (by decide) (by omega) 0 (ok := fun _ => True) (okp := fun _ => True) rfl (fun _ hk => hk) trivial (of_decide_eq_true (by first | (with_reducible assumption) | assumption)) (Nat.le_trans (Nat.mul_le_mul_right _ (of_decide_eq_true (by first | (with_reducible assumption) | assumption) : t157.toNat ≤ 35184372088832)) (by omega)) (Below.refl _ _) (Nat.le_refl _) ?_; intro v165 w23 ho24 hb hg_ hnew_; clear hg_ hnew_; (first | rw [← Ny164.out] at ho24 | (simp only [Int.reduceToNat] at ho24; rw [← Ny164.out] at ho24)); have n0_ := Aside0.mk (Kd.R_lower ho24 (below_size (by repeat (first | (with_reducible first | exact HB.out | apply below_alloc | apply pw_below_drewN | apply below_drew1 | refine below_set ?_ GE155.out | refine below_set ?_ GE163.out) | exact HB.out)))); have n1_ := Aside0.mk (blk_below (g := gb155) (o := .cells #[.int .u8 a0_0, .int .u8 a0_1, .int .u8 a0_2, .int .u8 a0_3, .int .u8 a0_4, .int .u8 a0_5] 29 (0, 0)) (by (with_reducible repeat (first | refine blk_drewN ?_ _ | refine blk_drew ?_ | refine blk_alloc ?_ _)); refine blk_far ?_ NB155_163.out _; (with_reducible repeat (first | refine blk_drewN ?_ _ | refine blk_drew ?_ | refine blk_alloc ?_ _)); refine blk_far ?_ NB155_163.out _; (with_reducible repeat (first | refine blk_drewN ?_ _ | refine blk_drew ?_ | refine blk_alloc ?_ _)); refine blk_far ?_ NB155_163.out _; (with_reducible repeat (first | refine blk_drewN ?_ _ | refine blk_drew ?_ | refine blk_alloc ?_ _)); refine blk_far ?_ NB155_163.out _; (with_reducible repeat (first | refine blk_drewN ?_ _ | refine blk_drew ?_ | refine blk_alloc ?_ _)); refine blk_far ?_ NB155_163.out _; (with_reducible repeat (first | refine blk_drewN ?_ _ | refine blk_drew ?_ | refine blk_alloc ?_ _)); refine blk_far ?_ NB155_163.out _; (with_reducible repeat (first | refine blk_drewN ?_ _ | refine blk_drew ?_ | refine blk_alloc ?_ _)); exact BK155.out) hb); have n2_ := Aside0.mk (blk_below (g := gb163) (o := .cells #[.int .i64 t157, .int .i64 t158, .int .i64 t159, .int .i64 t160, .int .i64 t161, .int .i64 t162] 23 (0, 0)) (by (with_reducible repeat (first | refine blk_drewN ?_ _ | refine blk_drew ?_ | refine blk_alloc ?_ _)); refine blk_put (cs := #[.int .i64 t157, .int .i64 t158, .int .i64 t159, .int .i64 t160, .int .i64 t161, .int .i64 0]) ?_ 5 _ rfl; (with_reducible repeat (first | refine blk_drewN ?_ _ | refine blk_drew ?_ | refine blk_alloc ?_ _)); refine blk_put (cs := #[.int .i64 t157, .int .i64 t158, .int .i64 t159, .int .i64 t160, .int .i64 0, .int .i64 0]) ?_ 4 _ rfl; (with_reducible repeat (first | refine blk_drewN ?_ _ | refine blk_drew ?_ | refine blk_alloc ?_ _)); refine blk_put (cs := #[.int .i64 t157, .int .i64 t158, .int .i64 t159, .int .i64 0, .int .i64 0, .int .i64 0]) ?_ 3 _ rfl; (with_reducible repeat (first | refine blk_drewN ?_ _ | refine blk_drew ?_ | refine blk_alloc ?_ _)); refine blk_put (cs := #[.int .i64 t157, .int .i64 t158, .int .i64 0, .int .i64 0, .int .i64 0, .int .i64 0]) ?_ 2 _ rfl; (with_reducible repeat (first | refine blk_drewN ?_ _ | refine blk_drew ?_ | refine blk_alloc ?_ _)); refine blk_put (cs := #[.int .i64 t157, .int .i64 0, .int .i64 0, .int .i64 0, .int .i64 0, .int .i64 0]) ?_ 1 _ rfl; (with_reducible repeat (first | refine blk_drewN ?_ _ | refine blk_drew ?_ | refine blk_alloc ?_ _)); refine blk_put (cs := #[.int .i64 0, .int .i64 0, .int .i64 0, .int .i64 0, .int .i64 0, .int .i64 0]) ?_ 0 _ rfl; (with_reducible repeat (first | refine blk_drewN ?_ _ | refine blk_drew ?_ | refine blk_alloc ?_ _)); exact BK163.out) hb); have n3_ := Aside0.mk (below_step (by repeat (first | (with_reducible first | exact HB.out | apply below_alloc | apply pw_below_drewN | apply below_drew1 | refine below_set ?_ GE155.out | refine below_set ?_ GE163.out) | exact HB.out)) hb); clear BK155; clear BK163; clear HB; have HO166 := n0_; have BK155 := n1_; have BK163 := n2_; have HB := n3_; clear n0_ n1_ n2_ n3_; clear hb ho24; have hcz25_0 : w23.cell? ⟨gb163, 0, none⟩ = some (.int .i64 t157) := (blk_cell BK163.out 0).trans rfl; have hcz25_1 : w23.cell? ⟨gb163, 1, none⟩ = some (.int .i64 t158) := (blk_cell BK163.out 1).trans rfl; have hcz25_2 : w23.cell? ⟨gb163, 2, none⟩ = some (.int .i64 t159) := (blk_cell BK163.out 2).trans rfl; have hcz25_3 : w23.cell? ⟨gb163, 3, none⟩ = some (.int .i64 t160) := (blk_cell BK163.out 3).trans rfl; have hcz25_4 : w23.cell? ⟨gb163, 4, none⟩ = some (.int .i64 t161) := (blk_cell BK163.out 4).trans rfl; have hcz25_5 : w23.cell? ⟨gb163, 5, none⟩ = some (.int .i64 t162) := (blk_cell BK163.out 5).trans rfl; have hfz25_0 := blk_frozen BK163.out 0; have hfz25_1 := blk_frozen BK163.out 1; have hfz25_2 := blk_frozen BK163.out 2; have hfz25_3 := blk_frozen BK163.out 3; have hfz25_4 := blk_frozen BK163.out 4; have hfz25_5 := blk_frozen BK163.out 5) | ((with_reducible refine gate_callee (f := 15) rfl ?_); refine goesL_ (some 32) rfl rfl Try.func15 (by kernel_rfl) rfl #[.agg #[.int .i64 t157, .int .i64 t158, .int .i64 t159, .int .i64 t160, .int .i64 t161, .int .i64 t162], .int .i64 (Int.tmod (wrap64 (a1)) (wrap64 (t159 * t160)))] rfl (by (try simp only [List.map_toArray, List.map_cons, List.map_nil]); first | done | rfl | (simp only [List.length_drop, List.length_take]; rfl)) ?_; (with_reducible refine (geom_Shape_Parity.calls t157 t158 t159 t160 t161 t162 (Int.tmod (wrap64 (a1)) (wrap64 (t159 * t160))) t167 _ A9.out).mono ?_); rintro e w26 ⟨rfl, hb⟩; refine ⟨_, rfl, ?_⟩; have n0_ := Aside0.mk (Kd.R_below (by (with_reducible repeat (first | apply Kd.R_alloc | apply Kd.R_drewN | apply Kd.R_drew)); exact HO166.out) hb); have n1_ := Aside0.mk (blk_below (g := gb155) (o := .cells #[.int .u8 a0_0, .int .u8 a0_1, .int .u8 a0_2, .int .u8 a0_3, .int .u8 a0_4, .int .u8 a0_5] 29 (0, 0)) (by (with_reducible repeat (first | refine blk_drewN ?_ _ | refine blk_drew ?_ | refine blk_alloc ?_ _)); exact BK155.out) hb); have n2_ := Aside0.mk (blk_below (g := gb163) (o := .cells #[.int .i64 t157, .int .i64 t158, .int .i64 t159, .int .i64 t160, .int .i64 t161, .int .i64 t162] 23 (0, 0)) (by (with_reducible repeat (first | refine blk_drewN ?_ _ | refine blk_drew ?_ | refine blk_alloc ?_ _)); exact BK163.out) hb); have n3_ := Aside0.mk (below_step (by repeat (first | (with_reducible first | exact HB.out | apply below_alloc | apply pw_below_drewN | apply below_drew1 | refine below_set ?_ GE155.out | refine below_set ?_ GE163.out) | exact HB.out)) hb); clear HO166; clear BK155; clear BK163; clear HB; have HO166 := n0_; have BK155 := n1_; have BK163 := n2_; have HB := n3_; clear n0_ n1_ n2_ n3_; (try clear hb); (try clear hb2); (try clear hk); (try clear hi); have hcz27_0 : w26.cell? ⟨gb163, 0, none⟩ = some (.int .i64 t157) := (blk_cell BK163.out 0).trans rfl; have hcz27_1 : w26.cell? ⟨gb163, 1, none⟩ = some (.int .i64 t158) := (blk_cell BK163.out 1).trans rfl; have hcz27_2 : w26.cell? ⟨gb163, 2, none⟩ = some (.int .i64 t159) := (blk_cell BK163.out 2).trans rfl; have hcz27_3 : w26.cell? ⟨gb163, 3, none⟩ = some (.int .i64 t160) := (blk_cell BK163.out 3).trans rfl; have hcz27_4 : w26.cell? ⟨gb163, 4, none⟩ = some (.int .i64 t161) := (blk_cell BK163.out 4).trans rfl; have hcz27_5 : w26.cell? ⟨gb163, 5, none⟩ = some (.int .i64 t162) := (blk_cell BK163.out 5).trans rfl; have hfz27_0 := blk_frozen BK163.out 0; have hfz27_1 := blk_frozen BK163.out 1; have hfz27_2 := blk_frozen BK163.out 2; have hfz27_3 := blk_frozen BK163.out 3; have hfz27_4 := blk_frozen BK163.out 4; have hfz27_5 := blk_frozen BK163.out 5; obtain ⟨Ao28, co28, eo28⟩ := Kd.R_slice HO166.out; subst eo28; have p168 : 0 ≤ ((ji12) : Int) := of_decide_eq_true (by first | (with_reducible assumption) | assumption); have q168 : (ji12) < (y164.length : Int) := of_decide_eq_true (by first | (with_reducible assumption) | assumption); obtain ⟨ad168, e168, hx168_0⟩ := Kd.at_int (Kd.R_reads' HO166.out).2.2 (ji12) p168 q168; cases e168; replace p168 := eq_true p168; replace q168 := eq_true q168; have p15 : 0 ≤ ((ji12) : Int) := of_decide_eq_true (by first | (with_reducible assumption) | assumption); have q15 : ((ji12) : Int) < ((y164.length : Int) : Int) := of_decide_eq_true (by first | (with_reducible assumption) | assumption); obtain ⟨go15, co15, eo15, gb15, gl15, cl15, HG15⟩ := Kd.R_form HO166.out (by omega); (first | cases eo15 | (injection eo15 with ea_ en_ ec_; (first | subst ea_ | (injection ea_ with ea_; subst ea_)); subst ec_; clear en_)); have GB15 := Aside0.mk gb15; have GG15 := Aside0.mk HG15; clear gb15 gl15 HG15; (first | simp only [add_plain] at hx168_0 | skip); obtain ⟨hx15_0, hf15_0⟩ := Kd.R_celln 0 HO166.out ((ji12) : Int) p15 q15; replace p15 := eq_true p15; replace q15 := eq_true q15; obtain ⟨hy29_, hz29_⟩ := Kd.R_celln 0 HO166.out ((ji12) : Int) (of_decide_eq_true (by first | (with_reducible assumption) | assumption)) (of_decide_eq_true (by first | (with_reducible assumption) | assumption)); have HP29 := Kd.R_putg HO166.out ((ji12) : Int) (wrap64 ((rd y164 (ji12)) + 1))) | ((with_reducible refine gate_store (t := 3) (p := 47) rfl ?_); refine store_event (t := 3) (p := 47) (v := ?vo_w30) (w1 := (w26.setCell ⟨go15, ((ji12) : Int).toNat, none⟩ (.int .i64 (wrap64 ((rd y164 (ji12)) + 1))))) ?hg ?ho ?hn ?hr ?_; (case ho => rfl); (case hg => rfl); (case hn => rfl); (case hr => first | (go_simp; done) | (go_simp; rfl)); intro w30 hw; have hg : w26.grownBy w30 (some go15) := (by rw [hw]; exact HP29.2); have hp_ : Kd.R (Kd.int .i64) 3 w30 w.heap.size (fun _ => True) (.slice (some ⟨go15, 0, none⟩) y164.length co28) y169 := (by rw [hw, Ny169.out]; exact HP29.1); clear HP29; have n0_ := Aside0.mk (blk_grown (g := gb155) (o := .cells #[.int .u8 a0_0, .int .u8 a0_1, .int .u8 a0_2, .int .u8 a0_3, .int .u8 a0_4, .int .u8 a0_5] 29 (0, 0)) (by (with_reducible repeat (first | refine blk_drewN ?_ _ | refine blk_drew ?_ | refine blk_alloc ?_ _)); exact BK155.out) hg (Kd.R_ne HO166.out BK155.out (by decide))); have n1_ := Aside0.mk (blk_grown (g := gb163) (o := .cells #[.int .i64 t157, .int .i64 t158, .int .i64 t159, .int .i64 t160, .int .i64 t161, .int .i64 t162] 23 (0, 0)) (by (with_reducible repeat (first | refine blk_drewN ?_ _ | refine blk_drew ?_ | refine blk_alloc ?_ _)); exact BK163.out) hg (Kd.R_ne HO166.out BK163.out (by decide))); have n2_ := Aside0.mk (hp_); have n3_ := Aside0.mk ((by rw [hw]; exact below_set (HB.out) GB15.out : Below w.heap.size w w30)); clear BK155; clear BK163; clear HO166; clear HB; have BK155 := n0_; have BK163 := n1_; have HO166 := n2_; have HB := n3_; clear n0_ n1_ n2_ n3_; clear hg hw hp_; have hcz31_0 : w30.cell? ⟨gb163, 0, none⟩ = some (.int .i64 t157) := (blk_cell BK163.out 0).trans rfl; have hcz31_1 : w30.cell? ⟨gb163, 1, none⟩ = some (.int .i64 t158) := (blk_cell BK163.out 1).trans rfl; have hcz31_2 : w30.cell? ⟨gb163, 2, none⟩ = some (.int .i64 t159) := (blk_cell BK163.out 2).trans rfl; have hcz31_3 : w30.cell? ⟨gb163, 3, none⟩ = some (.int .i64 t160) := (blk_cell BK163.out 3).trans rfl; have hcz31_4 : w30.cell? ⟨gb163, 4, none⟩ = some (.int .i64 t161) := (blk_cell BK163.out 4).trans rfl; have hcz31_5 : w30.cell? ⟨gb163, 5, none⟩ = some (.int .i64 t162) := (blk_cell BK163.out 5).trans rfl; have hfz31_0 := blk_frozen BK163.out 0; have hfz31_1 := blk_frozen BK163.out 1; have hfz31_2 := blk_frozen BK163.out 2; have hfz31_3 := blk_frozen BK163.out 3; have hfz31_4 := blk_frozen BK163.out 4; have hfz31_5 := blk_frozen BK163.out 5))
                  go_loopg [51] k (fun kq v51 w' => ∃ (x7_1 : List Int) (x51_1 : Int), v51 = .int .i64 x51_1 ∧ Aside0 (drystonelaw05_GeomPlaces.l0 kq (Int.tmod (wrap64 (a1)) (wrap64 (t159 * t160))) x7_1 (wrap64 (t157 - 1)) x51_1 t157 t158 t159 t160 t161 t162 = some r) ∧ Aside0 (kq ≤ k) ∧ Aside0 (Kd.R (Kd.int .i64) 3 w' w.heap.size (fun _ => True) (.slice (some ⟨go15, 0, none⟩) y164.length co28) x7_1) ∧ Aside0 (w'.heap[gb155]? = some (.cells #[.int .u8 a0_0, .int .u8 a0_1, .int .u8 a0_2, .int .u8 a0_3, .int .u8 a0_4, .int .u8 a0_5] 29 (0, 0))) ∧ Aside0 (w'.heap[gb163]? = some (.cells #[.int .i64 t157, .int .i64 t158, .int .i64 t159, .int .i64 t160, .int .i64 t161, .int .i64 t162] 23 (0, 0))) ∧ Aside0 (Below w.heap.size w w'))
                  case atStart => exact ⟨(y169), (0), (by first | rfl | (simp; done) | (simp [*]; done)), H', ⟨Nat.le_refl _⟩, ⟨by (with_reducible repeat (first | apply Kd.R_alloc | apply Kd.R_drewN | apply Kd.R_drew)); exact HO166.out⟩, ⟨by (with_reducible repeat (first | refine blk_drewN ?_ _ | refine blk_drew ?_ | refine blk_alloc ?_ _)); exact BK155.out⟩, ⟨by (with_reducible repeat (first | refine blk_drewN ?_ _ | refine blk_drew ?_ | refine blk_alloc ?_ _)); exact BK163.out⟩, ⟨by repeat (first | (with_reducible first | exact HB.out | apply below_alloc | apply pw_below_drewN | apply below_drew1 | refine below_set ?_ GE155.out | refine below_set ?_ GE163.out) | exact HB.out)⟩⟩
                  case round =>
                    clear H'
                    try clear c1
                    try clear p1
                    try clear q1
                    try clear hx1
                    try clear c2
                    try clear p2
                    try clear c4
                    try clear c6
                    try clear c6b0
                    try clear c6b1
                    try clear p6
                    try clear c7
                    try clear c7b0
                    try clear c7b1
                    try clear c8
                    try clear c8b0
                    try clear c8b1
                    try clear c10
                    try clear c10b0
                    try clear c10b1
                    try clear c11
                    try clear c11b0
                    try clear c11b1
                    try clear c13
                    try clear c13b0
                    try clear c14
                    try clear c14b0
                    try clear c15
                    try clear p15
                    try clear q15
                    try clear hx15
                    try clear hf15
                    try clear p16
                    try clear q16
                    try clear hx16
                    try clear c21
                    try clear hcz18_0
                    try clear hcz18_1
                    try clear hcz18_2
                    try clear hcz18_3
                    try clear hcz18_4
                    try clear hcz18_5
                    try clear hcz22_0
                    try clear hcz22_1
                    try clear hcz22_2
                    try clear hcz22_3
                    try clear hcz22_4
                    try clear hcz22_5
                    try clear hcz25_0
                    try clear hcz25_1
                    try clear hcz25_2
                    try clear hcz25_3
                    try clear hcz25_4
                    try clear hcz25_5
                    try clear hcz27_0
                    try clear hcz27_1
                    try clear hcz27_2
                    try clear hcz27_3
                    try clear hcz27_4
                    try clear hcz27_5
                    try clear hcz31_0
                    try clear hcz31_1
                    try clear hcz31_2
                    try clear hcz31_3
                    try clear hcz31_4
                    try clear hcz31_5
                    try clear hfz18_0
                    try clear hfz18_1
                    try clear hfz18_2
                    try clear hfz18_3
                    try clear hfz18_4
                    try clear hfz18_5
                    try clear hfz22_0
                    try clear hfz22_1
                    try clear hfz22_2
                    try clear hfz22_3
                    try clear hfz22_4
                    try clear hfz22_5
                    try clear hfz25_0
                    try clear hfz25_1
                    try clear hfz25_2
                    try clear hfz25_3
                    try clear hfz25_4
                    try clear hfz25_5
                    try clear hfz27_0
                    try clear hfz27_1
                    try clear hfz27_2
                    try clear hfz27_3
                    try clear hfz27_4
                    try clear hfz27_5
                    try clear hfz31_0
                    try clear hfz31_1
                    try clear hfz31_2
                    try clear hfz31_3
                    try clear hfz31_4
                    try clear hfz31_5
                    try clear hx15_0
                    try clear hx168_0
                    try clear p15
                    try clear p168
                    try clear q15
                    try clear q168
                    obtain ⟨x7_1, x51_1, rfl, HA, HK1, HO_7, BK155, BK163, HB⟩ := hrel
                    have hl7_1 := (Kd.R_reads' HO_7.out).1
                    rw [hl7_1] at HO_7
                    (try simp only [hl7_1])
                    (try simp only [hl7_1] at BK155)
                    (try simp only [hl7_1] at BK163)
                    cases gk with
                    | zero => exact absurd HA.out (by simp [drystonelaw05_GeomPlaces.l0])
                    | succ k1 =>
                      have H := HA.out
                      clear HA
                      simp only [drystonelaw05_GeomPlaces.l0] at H
                      by_cases c32 : x51_1 < (wrap64 (t157 - 1))
                      · rw [if_pos c32] at H
                        have c32b0 : decide (x51_1 < (wrap64 (t157 - 1))) = true := decide_eq_true c32
                        clear c32
                        replace H := Option.bind_eq_some_iff.mp H
                        obtain ⟨t170, A330, H⟩ := H
                        replace H : (if t157 = 0 then (none) else (if t170 = (Int.tmod (wrap64 ((wrap64 ((Int.tmod (wrap64 (a1)) (wrap64 (t159 * t160))) + 1)) + x51_1)) t157) then (if 0 ≤ t170 then (if t170 < (x7_1.length : Int) then (drystonelaw05_GeomPlaces.l0 k1 (Int.tmod (wrap64 (a1)) (wrap64 (t159 * t160))) (x7_1.set (t170 : Int).toNat (wrap64 ((rd x7_1 t170) + 1))) (wrap64 (t157 - 1)) (wrap64 (x51_1 + 1)) t157 t158 t159 t160 t161 t162) else (none)) else (none)) else (some false))) = some r := H
                        have A33 := Aside0.mk A330
                        clear A330
                        by_cases c34 : t157 = 0
                        · rw [if_pos c34] at H
                          exact absurd H (by simp)
                        · rw [if_neg c34] at H
                          have c34b0 : (t157 == 0) = false := beq_eq_false_iff_ne.mpr c34
                          have c34b1 : (t157 != 0) = true := bne_iff_ne.mpr c34
                          by_cases c35 : t170 = (Int.tmod (wrap64 ((wrap64 ((Int.tmod (wrap64 (a1)) (wrap64 (t159 * t160))) + 1)) + x51_1)) t157)
                          · rw [if_pos c35] at H
                            have c35b0 : (t170 == (Int.tmod (wrap64 ((wrap64 ((Int.tmod (wrap64 (a1)) (wrap64 (t159 * t160))) + 1)) + x51_1)) t157)) = true := beq_iff_eq.mpr c35
                            have c35b1 : (t170 != (Int.tmod (wrap64 ((wrap64 ((Int.tmod (wrap64 (a1)) (wrap64 (t159 * t160))) + 1)) + x51_1)) t157)) = false := bne_eq_false_iff_eq.mpr c35
                            clear c35
                            by_cases c36 : 0 ≤ t170
                            · rw [if_pos c36] at H
                              have c36b0 : decide (0 ≤ t170) = true := decide_eq_true c36
                              clear c36
                              by_cases c37 : t170 < (x7_1.length : Int)
                              · rw [if_pos c37] at H
                                have c37b0 : decide (t170 < (x7_1.length : Int)) = true := decide_eq_true c37
                                (try (have c37b0h := c37b0; simp only [hl7_1] at c37b0h))
                                clear c37
                                obtain ⟨y172, hy172⟩ : ∃ y_ : List Int, y_ = (x7_1.set (t170 : Int).toNat (wrap64 ((rd x7_1 t170) + 1))) := ⟨_, rfl⟩
                                replace H : (drystonelaw05_GeomPlaces.l0 k1 (Int.tmod (wrap64 (a1)) (wrap64 (t159 * t160))) y172 (wrap64 (t157 - 1)) (wrap64 (x51_1 + 1)) t157 t158 t159 t160 t161 t162) = some r := by first | (rw [hy172]; with_reducible exact H) | (have H2_ := (Option.bind_some _ _).symm.trans H; rw [hy172]; with_reducible exact H2_) | (have H2_ := (Option.bind_some _ _).symm.trans H; with_reducible exact H2_) | with_reducible exact H | (rw [hy172]; exact H) | exact H
                                have Ny172 := Aside0.mk hy172
                                clear hy172
                                have H' := Aside0.mk H
                                clear H
                                have hnb39 := NB163_155.out
                                have hnc39 := NB155_163.out
                                have hcz40_0 : wr.cell? ⟨gb163, 0, none⟩ = some (.int .i64 t157) := (blk_cell BK163.out 0).trans rfl
                                have hcz40_1 : wr.cell? ⟨gb163, 1, none⟩ = some (.int .i64 t158) := (blk_cell BK163.out 1).trans rfl
                                have hcz40_2 : wr.cell? ⟨gb163, 2, none⟩ = some (.int .i64 t159) := (blk_cell BK163.out 2).trans rfl
                                have hcz40_3 : wr.cell? ⟨gb163, 3, none⟩ = some (.int .i64 t160) := (blk_cell BK163.out 3).trans rfl
                                have hcz40_4 : wr.cell? ⟨gb163, 4, none⟩ = some (.int .i64 t161) := (blk_cell BK163.out 4).trans rfl
                                have hcz40_5 : wr.cell? ⟨gb163, 5, none⟩ = some (.int .i64 t162) := (blk_cell BK163.out 5).trans rfl
                                have hfz40_0 := blk_frozen BK163.out 0
                                have hfz40_1 := blk_frozen BK163.out 1
                                have hfz40_2 := blk_frozen BK163.out 2
                                have hfz40_3 := blk_frozen BK163.out 3
                                have hfz40_4 := blk_frozen BK163.out 4
                                have hfz40_5 := blk_frozen BK163.out 5
                                go_wp2_with (first | ((with_reducible refine gate_callee (f := 16) rfl ?_); refine goesL_ (some 57) rfl rfl Try.func16 (by kernel_rfl) rfl #[.agg #[.int .i64 t157, .int .i64 t158, .int .i64 t159, .int .i64 t160, .int .i64 t161, .int .i64 t162], .int .i64 (Int.tmod (wrap64 (a1)) (wrap64 (t159 * t160))), .int .i64 x51_1] rfl (by (try simp only [List.map_toArray, List.map_cons, List.map_nil]); first | done | rfl | (simp only [List.length_drop, List.length_take]; rfl)) ?_; (with_reducible refine (geom_Shape_Member.calls t157 t158 t159 t160 t161 t162 (Int.tmod (wrap64 (a1)) (wrap64 (t159 * t160))) x51_1 t170 _ A33.out).mono ?_); rintro e w41 ⟨rfl, hb⟩; refine ⟨_, rfl, ?_⟩; have n0_ := Aside0.mk (Kd.R_below (by (with_reducible repeat (first | apply Kd.R_alloc | apply Kd.R_drewN | apply Kd.R_drew)); exact HO_7.out) hb); have n1_ := Aside0.mk (blk_below (g := gb155) (o := .cells #[.int .u8 a0_0, .int .u8 a0_1, .int .u8 a0_2, .int .u8 a0_3, .int .u8 a0_4, .int .u8 a0_5] 29 (0, 0)) (by (with_reducible repeat (first | refine blk_drewN ?_ _ | refine blk_drew ?_ | refine blk_alloc ?_ _)); exact BK155.out) hb); have n2_ := Aside0.mk (blk_below (g := gb163) (o := .cells #[.int .i64 t157, .int .i64 t158, .int .i64 t159, .int .i64 t160, .int .i64 t161, .int .i64 t162] 23 (0, 0)) (by (with_reducible repeat (first | refine blk_drewN ?_ _ | refine blk_drew ?_ | refine blk_alloc ?_ _)); exact BK163.out) hb); have n3_ := Aside0.mk (below_step (by repeat (first | (with_reducible first | exact HB.out | apply below_alloc | apply pw_below_drewN | apply below_drew1 | refine below_set ?_ GE155.out | refine below_set ?_ GE163.out) | exact HB.out)) hb); clear HO_7; clear BK155; clear BK163; clear HB; have HO_7 := n0_; have BK155 := n1_; have BK163 := n2_; have HB := n3_; clear n0_ n1_ n2_ n3_; (try clear hb); (try clear hb2); (try clear hk); (try clear hi); have hcz42_0 : w41.cell? ⟨gb163, 0, none⟩ = some (.int .i64 t157) := (blk_cell BK163.out 0).trans rfl; have hcz42_1 : w41.cell? ⟨gb163, 1, none⟩ = some (.int .i64 t158) := (blk_cell BK163.out 1).trans rfl; have hcz42_2 : w41.cell? ⟨gb163, 2, none⟩ = some (.int .i64 t159) := (blk_cell BK163.out 2).trans rfl; have hcz42_3 : w41.cell? ⟨gb163, 3, none⟩ = some (.int .i64 t160) := (blk_cell BK163.out 3).trans rfl; have hcz42_4 : w41.cell? ⟨gb163, 4, none⟩ = some (.int .i64 t161) := (blk_cell BK163.out 4).trans rfl; have hcz42_5 : w41.cell? ⟨gb163, 5, none⟩ = some (.int .i64 t162) := (blk_cell BK163.out 5).trans rfl; have hfz42_0 := blk_frozen BK163.out 0; have hfz42_1 := blk_frozen BK163.out 1; have hfz42_2 := blk_frozen BK163.out 2; have hfz42_3 := blk_frozen BK163.out 3; have hfz42_4 := blk_frozen BK163.out 4; have hfz42_5 := blk_frozen BK163.out 5; have p171 : 0 ≤ (t170 : Int) := of_decide_eq_true (by first | (with_reducible assumption) | assumption); have q171 : t170 < (x7_1.length : Int) := of_decide_eq_true (by first | (with_reducible assumption) | assumption); obtain ⟨ad171, e171, hx171_0⟩ := Kd.at_int (Kd.R_reads' HO_7.out).2.2 t170 p171 q171; obtain rfl : (⟨go15, 0, none⟩ : Addr) = ad171 := (by injection e171); (first | simp only [add_plain] at hx171_0 | simp only [add_at] at hx171_0 | simp only [Addr.add, Nat.zero_add] at hx171_0 | skip); replace p171 := eq_true p171; replace q171 := eq_true q171; have p38 : 0 ≤ (t170 : Int) := of_decide_eq_true (by first | (with_reducible assumption) | assumption); have q38 : (t170 : Int) < ((x7_1.length : Int) : Int) := of_decide_eq_true (by first | (with_reducible assumption) | assumption); obtain ⟨hx38_0, hf38_0⟩ := Kd.R_celln 0 HO_7.out (t170 : Int) p38 q38; replace p38 := eq_true p38; replace q38 := eq_true q38; obtain ⟨hy43_, hz43_⟩ := Kd.R_celln 0 HO_7.out (t170 : Int) (of_decide_eq_true (by first | (with_reducible assumption) | assumption)) (of_decide_eq_true (by first | (with_reducible assumption) | assumption)); have HP43 := Kd.R_putg HO_7.out (t170 : Int) (wrap64 ((rd x7_1 t170) + 1))) | ((with_reducible refine gate_store (t := 3) (p := 72) rfl ?_); refine store_event (t := 3) (p := 72) (v := ?vo_w44) (w1 := (w41.setCell ⟨go15, (t170 : Int).toNat, none⟩ (.int .i64 (wrap64 ((rd x7_1 t170) + 1))))) ?hg ?ho ?hn ?hr ?_; (case ho => rfl); (case hg => rfl); (case hn => rfl); (case hr => first | (go_simp; done) | (go_simp; rfl)); intro w44 hw; have hg : w41.grownBy w44 (some go15) := (by rw [hw]; exact HP43.2); have hp_ : Kd.R (Kd.int .i64) 3 w44 w.heap.size (fun _ => True) (.slice (some ⟨go15, 0, none⟩) x7_1.length co28) y172 := (by rw [hw, Ny172.out]; exact HP43.1); clear HP43; have n0_ := Aside0.mk (hp_); have n1_ := Aside0.mk (blk_grown (g := gb155) (o := .cells #[.int .u8 a0_0, .int .u8 a0_1, .int .u8 a0_2, .int .u8 a0_3, .int .u8 a0_4, .int .u8 a0_5] 29 (0, 0)) (by (with_reducible repeat (first | refine blk_drewN ?_ _ | refine blk_drew ?_ | refine blk_alloc ?_ _)); exact BK155.out) hg (Kd.R_ne HO_7.out BK155.out (by decide))); have n2_ := Aside0.mk (blk_grown (g := gb163) (o := .cells #[.int .i64 t157, .int .i64 t158, .int .i64 t159, .int .i64 t160, .int .i64 t161, .int .i64 t162] 23 (0, 0)) (by (with_reducible repeat (first | refine blk_drewN ?_ _ | refine blk_drew ?_ | refine blk_alloc ?_ _)); exact BK163.out) hg (Kd.R_ne HO_7.out BK163.out (by decide))); have n3_ := Aside0.mk ((by rw [hw]; exact below_set (HB.out) GB15.out : Below w.heap.size w w44)); clear HO_7; clear BK155; clear BK163; clear HB; have HO_7 := n0_; have BK155 := n1_; have BK163 := n2_; have HB := n3_; clear n0_ n1_ n2_ n3_; clear hg hw hp_))
                                (try simp only [← hl7_1])
                                go_roundg k1
                                case measure => have := HK1.out; omega
                                case rel => exact ⟨(y172), (wrap64 (x51_1 + 1)), (by first | rfl | (simp; done) | (simp [*]; done)), H', ⟨by have := HK1.out; omega⟩, ⟨by (try simp only [hl7_1]); (with_reducible repeat (first | apply Kd.R_alloc | apply Kd.R_drewN | apply Kd.R_drew)); exact HO_7.out⟩, ⟨by (try simp only [hl7_1]); (with_reducible repeat (first | refine blk_drewN ?_ _ | refine blk_drew ?_ | refine blk_alloc ?_ _)); exact BK155.out⟩, ⟨by (try simp only [hl7_1]); (with_reducible repeat (first | refine blk_drewN ?_ _ | refine blk_drew ?_ | refine blk_alloc ?_ _)); exact BK163.out⟩, ⟨by repeat (first | (with_reducible first | exact HB.out | apply below_alloc | apply pw_below_drewN | apply below_drew1 | refine below_set ?_ GE155.out | refine below_set ?_ GE163.out) | exact HB.out)⟩⟩
                              · rw [if_neg c37] at H
                                exact absurd H (by simp)
                            · rw [if_neg c36] at H
                              exact absurd H (by simp)
                          · rw [if_neg c35] at H
                            have c35b0 : (t170 == (Int.tmod (wrap64 ((wrap64 ((Int.tmod (wrap64 (a1)) (wrap64 (t159 * t160))) + 1)) + x51_1)) t157)) = false := beq_eq_false_iff_ne.mpr c35
                            have c35b1 : (t170 != (Int.tmod (wrap64 ((wrap64 ((Int.tmod (wrap64 (a1)) (wrap64 (t159 * t160))) + 1)) + x51_1)) t157)) = true := bne_iff_ne.mpr c35
                            obtain rfl := Option.some.inj H
                            have hnb45 := NB163_155.out
                            have hnc45 := NB155_163.out
                            have hcz46_0 : wr.cell? ⟨gb163, 0, none⟩ = some (.int .i64 t157) := (blk_cell BK163.out 0).trans rfl
                            have hcz46_1 : wr.cell? ⟨gb163, 1, none⟩ = some (.int .i64 t158) := (blk_cell BK163.out 1).trans rfl
                            have hcz46_2 : wr.cell? ⟨gb163, 2, none⟩ = some (.int .i64 t159) := (blk_cell BK163.out 2).trans rfl
                            have hcz46_3 : wr.cell? ⟨gb163, 3, none⟩ = some (.int .i64 t160) := (blk_cell BK163.out 3).trans rfl
                            have hcz46_4 : wr.cell? ⟨gb163, 4, none⟩ = some (.int .i64 t161) := (blk_cell BK163.out 4).trans rfl
                            have hcz46_5 : wr.cell? ⟨gb163, 5, none⟩ = some (.int .i64 t162) := (blk_cell BK163.out 5).trans rfl
                            have hfz46_0 := blk_frozen BK163.out 0
                            have hfz46_1 := blk_frozen BK163.out 1
                            have hfz46_2 := blk_frozen BK163.out 2
                            have hfz46_3 := blk_frozen BK163.out 3
                            have hfz46_4 := blk_frozen BK163.out 4
                            have hfz46_5 := blk_frozen BK163.out 5
                            go_wp2_with (first | ((with_reducible refine gate_callee (f := 16) rfl ?_); refine goesL_ (some 57) rfl rfl Try.func16 (by kernel_rfl) rfl #[.agg #[.int .i64 t157, .int .i64 t158, .int .i64 t159, .int .i64 t160, .int .i64 t161, .int .i64 t162], .int .i64 (Int.tmod (wrap64 (a1)) (wrap64 (t159 * t160))), .int .i64 x51_1] rfl (by (try simp only [List.map_toArray, List.map_cons, List.map_nil]); first | done | rfl | (simp only [List.length_drop, List.length_take]; rfl)) ?_; (with_reducible refine (geom_Shape_Member.calls t157 t158 t159 t160 t161 t162 (Int.tmod (wrap64 (a1)) (wrap64 (t159 * t160))) x51_1 t170 _ A33.out).mono ?_); rintro e w47 ⟨rfl, hb⟩; refine ⟨_, rfl, ?_⟩; have n0_ := Aside0.mk (Kd.R_below (by (with_reducible repeat (first | apply Kd.R_alloc | apply Kd.R_drewN | apply Kd.R_drew)); exact HO_7.out) hb); have n1_ := Aside0.mk (blk_below (g := gb155) (o := .cells #[.int .u8 a0_0, .int .u8 a0_1, .int .u8 a0_2, .int .u8 a0_3, .int .u8 a0_4, .int .u8 a0_5] 29 (0, 0)) (by (with_reducible repeat (first | refine blk_drewN ?_ _ | refine blk_drew ?_ | refine blk_alloc ?_ _)); exact BK155.out) hb); have n2_ := Aside0.mk (blk_below (g := gb163) (o := .cells #[.int .i64 t157, .int .i64 t158, .int .i64 t159, .int .i64 t160, .int .i64 t161, .int .i64 t162] 23 (0, 0)) (by (with_reducible repeat (first | refine blk_drewN ?_ _ | refine blk_drew ?_ | refine blk_alloc ?_ _)); exact BK163.out) hb); have n3_ := Aside0.mk (below_step (by repeat (first | (with_reducible first | exact HB.out | apply below_alloc | apply pw_below_drewN | apply below_drew1 | refine below_set ?_ GE155.out | refine below_set ?_ GE163.out) | exact HB.out)) hb); clear HO_7; clear BK155; clear BK163; clear HB; have HO_7 := n0_; have BK155 := n1_; have BK163 := n2_; have HB := n3_; clear n0_ n1_ n2_ n3_; (try clear hb); (try clear hb2); (try clear hk); (try clear hi); have hcz48_0 : w47.cell? ⟨gb163, 0, none⟩ = some (.int .i64 t157) := (blk_cell BK163.out 0).trans rfl; have hcz48_1 : w47.cell? ⟨gb163, 1, none⟩ = some (.int .i64 t158) := (blk_cell BK163.out 1).trans rfl; have hcz48_2 : w47.cell? ⟨gb163, 2, none⟩ = some (.int .i64 t159) := (blk_cell BK163.out 2).trans rfl; have hcz48_3 : w47.cell? ⟨gb163, 3, none⟩ = some (.int .i64 t160) := (blk_cell BK163.out 3).trans rfl; have hcz48_4 : w47.cell? ⟨gb163, 4, none⟩ = some (.int .i64 t161) := (blk_cell BK163.out 4).trans rfl; have hcz48_5 : w47.cell? ⟨gb163, 5, none⟩ = some (.int .i64 t162) := (blk_cell BK163.out 5).trans rfl; have hfz48_0 := blk_frozen BK163.out 0; have hfz48_1 := blk_frozen BK163.out 1; have hfz48_2 := blk_frozen BK163.out 2; have hfz48_3 := blk_frozen BK163.out 3; have hfz48_4 := blk_frozen BK163.out 4; have hfz48_5 := blk_frozen BK163.out 5))
                            go_ret
                            exact ⟨by first | rfl | (simp [errW_none, errW_some] <;> rfl) | (simp only [← hji12]; first | rfl | (simp [errW_none, errW_some] <;> rfl)) | (simp [*, errW_none, errW_some] <;> rfl), by repeat (first | (with_reducible first | exact HB.out | apply below_alloc | apply pw_below_drewN | apply below_drew1 | refine below_set ?_ GE155.out | refine below_set ?_ GE163.out) | exact HB.out)⟩
                      · rw [if_neg c32] at H
                        have c32b0 : decide (x51_1 < (wrap64 (t157 - 1))) = false := decide_eq_false c32
                        clear c32
                        have H' := Aside0.mk H
                        clear H
                        go_wp2
                        go_loopg [76] k1 (fun kq v76 w' => ∃ (x76_2 : Int), v76 = .int .i64 x76_2 ∧ Aside0 (drystonelaw05_GeomPlaces.l1 kq (Int.tmod (wrap64 (a1)) (wrap64 (t159 * t160))) x7_1 (x7_1.length : Int) x76_2 t157 t158 t159 t160 t161 t162 = some r) ∧ Aside0 (kq ≤ k1) ∧ Aside0 (Kd.R (Kd.int .i64) 3 w' w.heap.size (fun _ => True) (.slice (some ⟨go15, 0, none⟩) x7_1.length co28) x7_1) ∧ Aside0 (w'.heap[gb155]? = some (.cells #[.int .u8 a0_0, .int .u8 a0_1, .int .u8 a0_2, .int .u8 a0_3, .int .u8 a0_4, .int .u8 a0_5] 29 (0, 0))) ∧ Aside0 (w'.heap[gb163]? = some (.cells #[.int .i64 t157, .int .i64 t158, .int .i64 t159, .int .i64 t160, .int .i64 t161, .int .i64 t162] 23 (0, 0))) ∧ Aside0 (Below w.heap.size w w'))
                        case atStart => exact ⟨(0), (by first | rfl | (simp; done) | (simp [*]; done)), H', ⟨Nat.le_refl _⟩, ⟨by (try simp only [hl7_1]); (with_reducible repeat (first | apply Kd.R_alloc | apply Kd.R_drewN | apply Kd.R_drew)); exact HO_7.out⟩, ⟨by (try simp only [hl7_1]); (with_reducible repeat (first | refine blk_drewN ?_ _ | refine blk_drew ?_ | refine blk_alloc ?_ _)); exact BK155.out⟩, ⟨by (try simp only [hl7_1]); (with_reducible repeat (first | refine blk_drewN ?_ _ | refine blk_drew ?_ | refine blk_alloc ?_ _)); exact BK163.out⟩, ⟨by repeat (first | (with_reducible first | exact HB.out | apply below_alloc | apply pw_below_drewN | apply below_drew1 | refine below_set ?_ GE155.out | refine below_set ?_ GE163.out) | exact HB.out)⟩⟩
                        case round =>
                          clear H'
                          try clear c1
                          try clear p1
                          try clear q1
                          try clear hx1
                          try clear c2
                          try clear p2
                          try clear c3
                          try clear p3
                          try clear q3
                          try clear hx3
                          try clear hf3
                          try clear c4
                          try clear c6
                          try clear c6b0
                          try clear c6b1
                          try clear p6
                          try clear c7
                          try clear c7b0
                          try clear c7b1
                          try clear c8
                          try clear c8b0
                          try clear c8b1
                          try clear c10
                          try clear c10b0
                          try clear c10b1
                          try clear c11
                          try clear c11b0
                          try clear c11b1
                          try clear c13
                          try clear c13b0
                          try clear c14
                          try clear c14b0
                          try clear c15
                          try clear p15
                          try clear q15
                          try clear hx15
                          try clear hf15
                          try clear c16
                          try clear p16
                          try clear q16
                          try clear hx16
                          try clear p17
                          try clear q17
                          try clear hx17
                          try clear c21
                          try clear c32
                          try clear c32b0
                          try clear c34
                          try clear c34b0
                          try clear c34b1
                          try clear c35
                          try clear c35b0
                          try clear c35b1
                          try clear c36
                          try clear c36b0
                          try clear c37
                          try clear c37b0
                          try clear p38
                          try clear q38
                          try clear hx38
                          try clear hf38
                          try clear c39
                          try clear c45
                          try clear hcz18_0
                          try clear hcz18_1
                          try clear hcz18_2
                          try clear hcz18_3
                          try clear hcz18_4
                          try clear hcz18_5
                          try clear hcz22_0
                          try clear hcz22_1
                          try clear hcz22_2
                          try clear hcz22_3
                          try clear hcz22_4
                          try clear hcz22_5
                          try clear hcz25_0
                          try clear hcz25_1
                          try clear hcz25_2
                          try clear hcz25_3
                          try clear hcz25_4
                          try clear hcz25_5
                          try clear hcz27_0
                          try clear hcz27_1
                          try clear hcz27_2
                          try clear hcz27_3
                          try clear hcz27_4
                          try clear hcz27_5
                          try clear hcz31_0
                          try clear hcz31_1
                          try clear hcz31_2
                          try clear hcz31_3
                          try clear hcz31_4
                          try clear hcz31_5
                          try clear hcz40_0
                          try clear hcz40_1
                          try clear hcz40_2
                          try clear hcz40_3
                          try clear hcz40_4
                          try clear hcz40_5
                          try clear hcz42_0
                          try clear hcz42_1
                          try clear hcz42_2
                          try clear hcz42_3
                          try clear hcz42_4
                          try clear hcz42_5
                          try clear hcz46_0
                          try clear hcz46_1
                          try clear hcz46_2
                          try clear hcz46_3
                          try clear hcz46_4
                          try clear hcz46_5
                          try clear hcz48_0
                          try clear hcz48_1
                          try clear hcz48_2
                          try clear hcz48_3
                          try clear hcz48_4
                          try clear hcz48_5
                          try clear hfz18_0
                          try clear hfz18_1
                          try clear hfz18_2
                          try clear hfz18_3
                          try clear hfz18_4
                          try clear hfz18_5
                          try clear hfz22_0
                          try clear hfz22_1
                          try clear hfz22_2
                          try clear hfz22_3
                          try clear hfz22_4
                          try clear hfz22_5
                          try clear hfz25_0
                          try clear hfz25_1
                          try clear hfz25_2
                          try clear hfz25_3
                          try clear hfz25_4
                          try clear hfz25_5
                          try clear hfz27_0
                          try clear hfz27_1
                          try clear hfz27_2
                          try clear hfz27_3
                          try clear hfz27_4
                          try clear hfz27_5
                          try clear hfz31_0
                          try clear hfz31_1
                          try clear hfz31_2
                          try clear hfz31_3
                          try clear hfz31_4
                          try clear hfz31_5
                          try clear hfz40_0
                          try clear hfz40_1
                          try clear hfz40_2
                          try clear hfz40_3
                          try clear hfz40_4
                          try clear hfz40_5
                          try clear hfz42_0
                          try clear hfz42_1
                          try clear hfz42_2
                          try clear hfz42_3
                          try clear hfz42_4
                          try clear hfz42_5
                          try clear hfz46_0
                          try clear hfz46_1
                          try clear hfz46_2
                          try clear hfz46_3
                          try clear hfz46_4
                          try clear hfz46_5
                          try clear hfz48_0
                          try clear hfz48_1
                          try clear hfz48_2
                          try clear hfz48_3
                          try clear hfz48_4
                          try clear hfz48_5
                          try clear hx15_0
                          try clear hx168_0
                          try clear hx171_0
                          try clear hx38_0
                          try clear p1
                          try clear p15
                          try clear p16
                          try clear p168
                          try clear p171
                          try clear p2
                          try clear p38
                          try clear p6
                          try clear q1
                          try clear q15
                          try clear q16
                          try clear q168
                          try clear q171
                          try clear q38
                          obtain ⟨x76_2, rfl, HA, HK2, HO_74, BK155, BK163, HB⟩ := hrel
                          cases gk with
                          | zero => exact absurd HA.out (by simp [drystonelaw05_GeomPlaces.l1])
                          | succ k2 =>
                            have H := HA.out
                            clear HA
                            simp only [drystonelaw05_GeomPlaces.l1] at H
                            by_cases c49 : x76_2 < (x7_1.length : Int)
                            · rw [if_pos c49] at H
                              have c49b0 : decide (x76_2 < (x7_1.length : Int)) = true := decide_eq_true c49
                              (try (have c49b0h := c49b0; simp only [hl7_1] at c49b0h))
                              clear c49
                              by_cases c50 : 0 ≤ x76_2
                              · rw [if_pos c50] at H
                                have c50b0 : decide (0 ≤ x76_2) = true := decide_eq_true c50
                                clear c50
                                by_cases c51 : x76_2 < (x7_1.length : Int)
                                · rw [if_pos c51] at H
                                  have c51b0 : decide (x76_2 < (x7_1.length : Int)) = true := decide_eq_true c51
                                  (try (have c51b0h := c51b0; simp only [hl7_1] at c51b0h))
                                  clear c51
                                  by_cases c52 : (rd x7_1 x76_2) = 1
                                  · rw [if_pos c52] at H
                                    have c52b0 : ((rd x7_1 x76_2) == 1) = true := beq_iff_eq.mpr c52
                                    have c52b1 : ((rd x7_1 x76_2) != 1) = false := bne_eq_false_iff_eq.mpr c52
                                    clear c52
                                    have H' := Aside0.mk H
                                    clear H
                                    have p173 : 0 ≤ (x76_2 : Int) := of_decide_eq_true (by first | (with_reducible assumption) | assumption)
                                    have q173 : x76_2 < (x7_1.length : Int) := of_decide_eq_true (by first | (with_reducible assumption) | assumption)
                                    obtain ⟨ad173, e173, hx173_0⟩ := Kd.at_int (Kd.R_reads' HO_74.out).2.2 x76_2 p173 q173
                                    obtain rfl : (⟨go15, 0, none⟩ : Addr) = ad173 := (by injection e173)
                                    (first | simp only [add_plain] at hx173_0 | simp only [add_at] at hx173_0 | simp only [Addr.add, Nat.zero_add] at hx173_0 | skip)
                                    replace p173 := eq_true p173
                                    replace q173 := eq_true q173
                                    go_wp2
                                    go_roundg k2
                                    case measure => have := HK1.out; have := HK2.out; omega
                                    case rel => exact ⟨(wrap64 (x76_2 + 1)), (by first | rfl | (simp; done) | (simp [*]; done)), H', ⟨by have := HK1.out; have := HK2.out; omega⟩, ⟨by (try simp only [hl7_1]); (with_reducible repeat (first | apply Kd.R_alloc | apply Kd.R_drewN | apply Kd.R_drew)); exact HO_74.out⟩, ⟨by (try simp only [hl7_1]); (with_reducible repeat (first | refine blk_drewN ?_ _ | refine blk_drew ?_ | refine blk_alloc ?_ _)); exact BK155.out⟩, ⟨by (try simp only [hl7_1]); (with_reducible repeat (first | refine blk_drewN ?_ _ | refine blk_drew ?_ | refine blk_alloc ?_ _)); exact BK163.out⟩, ⟨by repeat (first | (with_reducible first | exact HB.out | apply below_alloc | apply pw_below_drewN | apply below_drew1 | refine below_set ?_ GE155.out | refine below_set ?_ GE163.out) | exact HB.out)⟩⟩
                                  · rw [if_neg c52] at H
                                    have c52b0 : ((rd x7_1 x76_2) == 1) = false := beq_eq_false_iff_ne.mpr c52
                                    have c52b1 : ((rd x7_1 x76_2) != 1) = true := bne_iff_ne.mpr c52
                                    obtain rfl := Option.some.inj H
                                    have p173 : 0 ≤ (x76_2 : Int) := of_decide_eq_true (by first | (with_reducible assumption) | assumption)
                                    have q173 : x76_2 < (x7_1.length : Int) := of_decide_eq_true (by first | (with_reducible assumption) | assumption)
                                    obtain ⟨ad173, e173, hx173_0⟩ := Kd.at_int (Kd.R_reads' HO_74.out).2.2 x76_2 p173 q173
                                    obtain rfl : (⟨go15, 0, none⟩ : Addr) = ad173 := (by injection e173)
                                    (first | simp only [add_plain] at hx173_0 | simp only [add_at] at hx173_0 | simp only [Addr.add, Nat.zero_add] at hx173_0 | skip)
                                    replace p173 := eq_true p173
                                    replace q173 := eq_true q173
                                    go_wp2
                                    go_ret
                                    exact ⟨by first | rfl | (simp [errW_none, errW_some] <;> rfl) | (simp only [← hji12]; first | rfl | (simp [errW_none, errW_some] <;> rfl)) | (simp [*, errW_none, errW_some] <;> rfl), by repeat (first | (with_reducible first | exact HB.out | apply below_alloc | apply pw_below_drewN | apply below_drew1 | refine below_set ?_ GE155.out | refine below_set ?_ GE163.out) | exact HB.out)⟩
                                · rw [if_neg c51] at H
                                  exact absurd H (by simp)
                              · rw [if_neg c50] at H
                                exact absurd H (by simp)
                            · rw [if_neg c49] at H
                              have c49b0 : decide (x76_2 < (x7_1.length : Int)) = false := decide_eq_false c49
                              (try (have c49b0h := c49b0; simp only [hl7_1] at c49b0h))
                              clear c49
                              have H' := Aside0.mk H
                              clear H
                              have hnb53 := NB163_155.out
                              have hnc53 := NB155_163.out
                              have hcz54_0 : wr.cell? ⟨gb163, 0, none⟩ = some (.int .i64 t157) := (blk_cell BK163.out 0).trans rfl
                              have hcz54_1 : wr.cell? ⟨gb163, 1, none⟩ = some (.int .i64 t158) := (blk_cell BK163.out 1).trans rfl
                              have hcz54_2 : wr.cell? ⟨gb163, 2, none⟩ = some (.int .i64 t159) := (blk_cell BK163.out 2).trans rfl
                              have hcz54_3 : wr.cell? ⟨gb163, 3, none⟩ = some (.int .i64 t160) := (blk_cell BK163.out 3).trans rfl
                              have hcz54_4 : wr.cell? ⟨gb163, 4, none⟩ = some (.int .i64 t161) := (blk_cell BK163.out 4).trans rfl
                              have hcz54_5 : wr.cell? ⟨gb163, 5, none⟩ = some (.int .i64 t162) := (blk_cell BK163.out 5).trans rfl
                              have hfz54_0 := blk_frozen BK163.out 0
                              have hfz54_1 := blk_frozen BK163.out 1
                              have hfz54_2 := blk_frozen BK163.out 2
                              have hfz54_3 := blk_frozen BK163.out 3
                              have hfz54_4 := blk_frozen BK163.out 4
                              have hfz54_5 := blk_frozen BK163.out 5
                              go_wp2
                              go_loopg [86] k2 (fun kq v86 w' => ∃ (x86_3 : Int), v86 = .int .i64 x86_3 ∧ Aside0 (drystonelaw05_GeomPlaces.l2 kq (Int.tmod (wrap64 (a1)) (wrap64 (t159 * t160))) (wrap64 (t157 - 2)) x86_3 t157 t158 t159 t160 t161 t162 = some r) ∧ Aside0 (kq ≤ k2) ∧ Aside0 (w'.heap[gb155]? = some (.cells #[.int .u8 a0_0, .int .u8 a0_1, .int .u8 a0_2, .int .u8 a0_3, .int .u8 a0_4, .int .u8 a0_5] 29 (0, 0))) ∧ Aside0 (w'.heap[gb163]? = some (.cells #[.int .i64 t157, .int .i64 t158, .int .i64 t159, .int .i64 t160, .int .i64 t161, .int .i64 t162] 23 (0, 0))) ∧ Aside0 (Below w.heap.size w w'))
                              case atStart => exact ⟨(0), (by first | rfl | (simp; done) | (simp [*]; done)), H', ⟨Nat.le_refl _⟩, ⟨by (try simp only [hl7_1]); (with_reducible repeat (first | refine blk_drewN ?_ _ | refine blk_drew ?_ | refine blk_alloc ?_ _)); exact BK155.out⟩, ⟨by (try simp only [hl7_1]); (with_reducible repeat (first | refine blk_drewN ?_ _ | refine blk_drew ?_ | refine blk_alloc ?_ _)); exact BK163.out⟩, ⟨by repeat (first | (with_reducible first | exact HB.out | apply below_alloc | apply pw_below_drewN | apply below_drew1 | refine below_set ?_ GE155.out | refine below_set ?_ GE163.out) | exact HB.out)⟩⟩
                              case round =>
                                clear H'
                                try clear c1
                                try clear p1
                                try clear q1
                                try clear hx1
                                try clear c2
                                try clear p2
                                try clear c3
                                try clear p3
                                try clear q3
                                try clear hx3
                                try clear hf3
                                try clear c4
                                try clear c5
                                try clear c6
                                try clear c6b0
                                try clear c6b1
                                try clear p6
                                try clear c7
                                try clear c7b0
                                try clear c7b1
                                try clear c8
                                try clear c8b0
                                try clear c8b1
                                try clear c10
                                try clear c10b0
                                try clear c10b1
                                try clear c11
                                try clear c11b0
                                try clear c11b1
                                try clear c13
                                try clear c13b0
                                try clear c14
                                try clear c14b0
                                try clear c15
                                try clear p15
                                try clear q15
                                try clear hx15
                                try clear hf15
                                try clear c16
                                try clear p16
                                try clear q16
                                try clear hx16
                                try clear p17
                                try clear q17
                                try clear hx17
                                try clear c21
                                try clear c32
                                try clear c32b0
                                try clear c34
                                try clear c34b0
                                try clear c34b1
                                try clear c35
                                try clear c35b0
                                try clear c35b1
                                try clear c36
                                try clear c36b0
                                try clear c37
                                try clear c37b0
                                try clear p38
                                try clear q38
                                try clear hx38
                                try clear hf38
                                try clear c39
                                try clear c45
                                try clear c49
                                try clear c49b0
                                try clear c50
                                try clear c50b0
                                try clear c51
                                try clear c51b0
                                try clear c52
                                try clear c52b0
                                try clear c52b1
                                try clear c53
                                try clear hcz18_0
                                try clear hcz18_1
                                try clear hcz18_2
                                try clear hcz18_3
                                try clear hcz18_4
                                try clear hcz18_5
                                try clear hcz22_0
                                try clear hcz22_1
                                try clear hcz22_2
                                try clear hcz22_3
                                try clear hcz22_4
                                try clear hcz22_5
                                try clear hcz25_0
                                try clear hcz25_1
                                try clear hcz25_2
                                try clear hcz25_3
                                try clear hcz25_4
                                try clear hcz25_5
                                try clear hcz27_0
                                try clear hcz27_1
                                try clear hcz27_2
                                try clear hcz27_3
                                try clear hcz27_4
                                try clear hcz27_5
                                try clear hcz31_0
                                try clear hcz31_1
                                try clear hcz31_2
                                try clear hcz31_3
                                try clear hcz31_4
                                try clear hcz31_5
                                try clear hcz40_0
                                try clear hcz40_1
                                try clear hcz40_2
                                try clear hcz40_3
                                try clear hcz40_4
                                try clear hcz40_5
                                try clear hcz42_0
                                try clear hcz42_1
                                try clear hcz42_2
                                try clear hcz42_3
                                try clear hcz42_4
                                try clear hcz42_5
                                try clear hcz46_0
                                try clear hcz46_1
                                try clear hcz46_2
                                try clear hcz46_3
                                try clear hcz46_4
                                try clear hcz46_5
                                try clear hcz48_0
                                try clear hcz48_1
                                try clear hcz48_2
                                try clear hcz48_3
                                try clear hcz48_4
                                try clear hcz48_5
                                try clear hcz54_0
                                try clear hcz54_1
                                try clear hcz54_2
                                try clear hcz54_3
                                try clear hcz54_4
                                try clear hcz54_5
                                try clear hfz18_0
                                try clear hfz18_1
                                try clear hfz18_2
                                try clear hfz18_3
                                try clear hfz18_4
                                try clear hfz18_5
                                try clear hfz22_0
                                try clear hfz22_1
                                try clear hfz22_2
                                try clear hfz22_3
                                try clear hfz22_4
                                try clear hfz22_5
                                try clear hfz25_0
                                try clear hfz25_1
                                try clear hfz25_2
                                try clear hfz25_3
                                try clear hfz25_4
                                try clear hfz25_5
                                try clear hfz27_0
                                try clear hfz27_1
                                try clear hfz27_2
                                try clear hfz27_3
                                try clear hfz27_4
                                try clear hfz27_5
                                try clear hfz31_0
                                try clear hfz31_1
                                try clear hfz31_2
                                try clear hfz31_3
                                try clear hfz31_4
                                try clear hfz31_5
                                try clear hfz40_0
                                try clear hfz40_1
                                try clear hfz40_2
                                try clear hfz40_3
                                try clear hfz40_4
                                try clear hfz40_5
                                try clear hfz42_0
                                try clear hfz42_1
                                try clear hfz42_2
                                try clear hfz42_3
                                try clear hfz42_4
                                try clear hfz42_5
                                try clear hfz46_0
                                try clear hfz46_1
                                try clear hfz46_2
                                try clear hfz46_3
                                try clear hfz46_4
                                try clear hfz46_5
                                try clear hfz48_0
                                try clear hfz48_1
                                try clear hfz48_2
                                try clear hfz48_3
                                try clear hfz48_4
                                try clear hfz48_5
                                try clear hfz54_0
                                try clear hfz54_1
                                try clear hfz54_2
                                try clear hfz54_3
                                try clear hfz54_4
                                try clear hfz54_5
                                try clear hx15_0
                                try clear hx168_0
                                try clear hx171_0
                                try clear hx173_0
                                try clear hx38_0
                                try clear p1
                                try clear p15
                                try clear p16
                                try clear p168
                                try clear p17
                                try clear p171
                                try clear p173
                                try clear p2
                                try clear p3
                                try clear p38
                                try clear p6
                                try clear q1
                                try clear q15
                                try clear q16
                                try clear q168
                                try clear q17
                                try clear q171
                                try clear q173
                                try clear q3
                                try clear q38
                                obtain ⟨x86_3, rfl, HA, HK3, BK155, BK163, HB⟩ := hrel
                                cases gk with
                                | zero => exact absurd HA.out (by simp [drystonelaw05_GeomPlaces.l2])
                                | succ k3 =>
                                  have H := HA.out
                                  clear HA
                                  simp only [drystonelaw05_GeomPlaces.l2] at H
                                  by_cases c55 : x86_3 < (wrap64 (t157 - 2))
                                  · rw [if_pos c55] at H
                                    have c55b0 : decide (x86_3 < (wrap64 (t157 - 2))) = true := decide_eq_true c55
                                    clear c55
                                    replace H := Option.bind_eq_some_iff.mp H
                                    obtain ⟨t174, A560, H⟩ := H
                                    replace H : (if t174 = (wrap64 ((wrap64 ((Int.tmod (wrap64 (a1)) (wrap64 (t159 * t160))) * (wrap64 (t157 - 2)))) + x86_3)) then ((geom_Shape_Spot.f t157 t158 t159 t160 t161 t162 t174).bind fun bt175 => (if (!(bt175.1 == (Int.tmod (wrap64 (a1)) (wrap64 (t159 * t160)))) || (!(bt175.2 == (wrap64 (x86_3 + 1))))) = true then (some false) else (drystonelaw05_GeomPlaces.l2 k3 (Int.tmod (wrap64 (a1)) (wrap64 (t159 * t160))) (wrap64 (t157 - 2)) (wrap64 (x86_3 + 1)) t157 t158 t159 t160 t161 t162))) else (some false)) = some r := H
                                    have A56 := Aside0.mk A560
                                    clear A560
                                    by_cases c57 : t174 = (wrap64 ((wrap64 ((Int.tmod (wrap64 (a1)) (wrap64 (t159 * t160))) * (wrap64 (t157 - 2)))) + x86_3))
                                    · rw [if_pos c57] at H
                                      have c57b0 : (t174 == (wrap64 ((wrap64 ((Int.tmod (wrap64 (a1)) (wrap64 (t159 * t160))) * (wrap64 (t157 - 2)))) + x86_3))) = true := beq_iff_eq.mpr c57
                                      have c57b1 : (t174 != (wrap64 ((wrap64 ((Int.tmod (wrap64 (a1)) (wrap64 (t159 * t160))) * (wrap64 (t157 - 2)))) + x86_3))) = false := bne_eq_false_iff_eq.mpr c57
                                      clear c57
                                      replace H := Option.bind_eq_some_iff.mp H
                                      obtain ⟨⟨t175, t176⟩, A580, H⟩ := H
                                      replace H : (if (!(t175 == (Int.tmod (wrap64 (a1)) (wrap64 (t159 * t160)))) || (!(t176 == (wrap64 (x86_3 + 1))))) = true then (some false) else (drystonelaw05_GeomPlaces.l2 k3 (Int.tmod (wrap64 (a1)) (wrap64 (t159 * t160))) (wrap64 (t157 - 2)) (wrap64 (x86_3 + 1)) t157 t158 t159 t160 t161 t162)) = some r := H
                                      have A58 := Aside0.mk A580
                                      clear A580
                                      by_cases c59 : (!(t175 == (Int.tmod (wrap64 (a1)) (wrap64 (t159 * t160)))) || (!(t176 == (wrap64 (x86_3 + 1))))) = true
                                      · rw [if_pos c59] at H
                                        have c59b0 : (!(t175 == (Int.tmod (wrap64 (a1)) (wrap64 (t159 * t160)))) || (!(t176 == (wrap64 (x86_3 + 1))))) = true := c59
                                        clear c59
                                        obtain rfl := Option.some.inj H
                                        have hnb60 := NB163_155.out
                                        have hnc60 := NB155_163.out
                                        have hcz61_0 : wr.cell? ⟨gb163, 0, none⟩ = some (.int .i64 t157) := (blk_cell BK163.out 0).trans rfl
                                        have hcz61_1 : wr.cell? ⟨gb163, 1, none⟩ = some (.int .i64 t158) := (blk_cell BK163.out 1).trans rfl
                                        have hcz61_2 : wr.cell? ⟨gb163, 2, none⟩ = some (.int .i64 t159) := (blk_cell BK163.out 2).trans rfl
                                        have hcz61_3 : wr.cell? ⟨gb163, 3, none⟩ = some (.int .i64 t160) := (blk_cell BK163.out 3).trans rfl
                                        have hcz61_4 : wr.cell? ⟨gb163, 4, none⟩ = some (.int .i64 t161) := (blk_cell BK163.out 4).trans rfl
                                        have hcz61_5 : wr.cell? ⟨gb163, 5, none⟩ = some (.int .i64 t162) := (blk_cell BK163.out 5).trans rfl
                                        have hfz61_0 := blk_frozen BK163.out 0
                                        have hfz61_1 := blk_frozen BK163.out 1
                                        have hfz61_2 := blk_frozen BK163.out 2
                                        have hfz61_3 := blk_frozen BK163.out 3
                                        have hfz61_4 := blk_frozen BK163.out 4
                                        have hfz61_5 := blk_frozen BK163.out 5
                                        go_wp2_with (first | ((with_reducible refine gate_callee (f := 17) rfl ?_); refine goesL_ (some 92) rfl rfl Try.func17 (by kernel_rfl) rfl #[.agg #[.int .i64 t157, .int .i64 t158, .int .i64 t159, .int .i64 t160, .int .i64 t161, .int .i64 t162], .int .i64 (Int.tmod (wrap64 (a1)) (wrap64 (t159 * t160))), .int .i64 x86_3] rfl (by (try simp only [List.map_toArray, List.map_cons, List.map_nil]); first | done | rfl | (simp only [List.length_drop, List.length_take]; rfl)) ?_; (with_reducible refine (geom_Shape_Place.calls t157 t158 t159 t160 t161 t162 (Int.tmod (wrap64 (a1)) (wrap64 (t159 * t160))) x86_3 t174 _ A56.out).mono ?_); rintro e w62 ⟨rfl, hb⟩; refine ⟨_, rfl, ?_⟩; have n0_ := Aside0.mk (blk_below (g := gb155) (o := .cells #[.int .u8 a0_0, .int .u8 a0_1, .int .u8 a0_2, .int .u8 a0_3, .int .u8 a0_4, .int .u8 a0_5] 29 (0, 0)) (by (with_reducible repeat (first | refine blk_drewN ?_ _ | refine blk_drew ?_ | refine blk_alloc ?_ _)); exact BK155.out) hb); have n1_ := Aside0.mk (blk_below (g := gb163) (o := .cells #[.int .i64 t157, .int .i64 t158, .int .i64 t159, .int .i64 t160, .int .i64 t161, .int .i64 t162] 23 (0, 0)) (by (with_reducible repeat (first | refine blk_drewN ?_ _ | refine blk_drew ?_ | refine blk_alloc ?_ _)); exact BK163.out) hb); have n2_ := Aside0.mk (below_step (by repeat (first | (with_reducible first | exact HB.out | apply below_alloc | apply pw_below_drewN | apply below_drew1 | refine below_set ?_ GE155.out | refine below_set ?_ GE163.out) | exact HB.out)) hb); clear BK155; clear BK163; clear HB; have BK155 := n0_; have BK163 := n1_; have HB := n2_; clear n0_ n1_ n2_; (try clear hb); (try clear hb2); (try clear hk); (try clear hi); have hcz63_0 : w62.cell? ⟨gb163, 0, none⟩ = some (.int .i64 t157) := (blk_cell BK163.out 0).trans rfl; have hcz63_1 : w62.cell? ⟨gb163, 1, none⟩ = some (.int .i64 t158) := (blk_cell BK163.out 1).trans rfl; have hcz63_2 : w62.cell? ⟨gb163, 2, none⟩ = some (.int .i64 t159) := (blk_cell BK163.out 2).trans rfl; have hcz63_3 : w62.cell? ⟨gb163, 3, none⟩ = some (.int .i64 t160) := (blk_cell BK163.out 3).trans rfl; have hcz63_4 : w62.cell? ⟨gb163, 4, none⟩ = some (.int .i64 t161) := (blk_cell BK163.out 4).trans rfl; have hcz63_5 : w62.cell? ⟨gb163, 5, none⟩ = some (.int .i64 t162) := (blk_cell BK163.out 5).trans rfl; have hfz63_0 := blk_frozen BK163.out 0; have hfz63_1 := blk_frozen BK163.out 1; have hfz63_2 := blk_frozen BK163.out 2; have hfz63_3 := blk_frozen BK163.out 3; have hfz63_4 := blk_frozen BK163.out 4; have hfz63_5 := blk_frozen BK163.out 5) | (go_at_call 18; (with_reducible refine (geom_Shape_Spot.calls t157 t158 t159 t160 t161 t162 t174 t175 t176 _ A58.out).mono ?_); rintro e w64 ⟨rfl, hb⟩; have n0_ := Aside0.mk (blk_below (g := gb155) (o := .cells #[.int .u8 a0_0, .int .u8 a0_1, .int .u8 a0_2, .int .u8 a0_3, .int .u8 a0_4, .int .u8 a0_5] 29 (0, 0)) (by (with_reducible repeat (first | refine blk_drewN ?_ _ | refine blk_drew ?_ | refine blk_alloc ?_ _)); exact BK155.out) hb); have n1_ := Aside0.mk (blk_below (g := gb163) (o := .cells #[.int .i64 t157, .int .i64 t158, .int .i64 t159, .int .i64 t160, .int .i64 t161, .int .i64 t162] 23 (0, 0)) (by (with_reducible repeat (first | refine blk_drewN ?_ _ | refine blk_drew ?_ | refine blk_alloc ?_ _)); exact BK163.out) hb); have n2_ := Aside0.mk (below_step (by repeat (first | (with_reducible first | exact HB.out | apply below_alloc | apply pw_below_drewN | apply below_drew1 | refine below_set ?_ GE155.out | refine below_set ?_ GE163.out) | exact HB.out)) hb); clear BK155; clear BK163; clear HB; have BK155 := n0_; have BK163 := n1_; have HB := n2_; clear n0_ n1_ n2_; (try clear hb); (try clear hb2); (try clear hk); (try clear hi)))
                                        go_ret
                                        exact ⟨by first | rfl | (simp [errW_none, errW_some] <;> rfl) | (simp only [← hji12]; first | rfl | (simp [errW_none, errW_some] <;> rfl)) | (simp [*, errW_none, errW_some] <;> rfl), by repeat (first | (with_reducible first | exact HB.out | apply below_alloc | apply pw_below_drewN | apply below_drew1 | refine below_set ?_ GE155.out | refine below_set ?_ GE163.out) | exact HB.out)⟩
                                      · rw [if_neg c59] at H
                                        have c59b0 : (!(t175 == (Int.tmod (wrap64 (a1)) (wrap64 (t159 * t160)))) || (!(t176 == (wrap64 (x86_3 + 1))))) = false := by simpa using c59
                                        clear c59
                                        have H' := Aside0.mk H
                                        clear H
                                        have hnb65 := NB163_155.out
                                        have hnc65 := NB155_163.out
                                        have hcz66_0 : wr.cell? ⟨gb163, 0, none⟩ = some (.int .i64 t157) := (blk_cell BK163.out 0).trans rfl
                                        have hcz66_1 : wr.cell? ⟨gb163, 1, none⟩ = some (.int .i64 t158) := (blk_cell BK163.out 1).trans rfl
                                        have hcz66_2 : wr.cell? ⟨gb163, 2, none⟩ = some (.int .i64 t159) := (blk_cell BK163.out 2).trans rfl
                                        have hcz66_3 : wr.cell? ⟨gb163, 3, none⟩ = some (.int .i64 t160) := (blk_cell BK163.out 3).trans rfl
                                        have hcz66_4 : wr.cell? ⟨gb163, 4, none⟩ = some (.int .i64 t161) := (blk_cell BK163.out 4).trans rfl
                                        have hcz66_5 : wr.cell? ⟨gb163, 5, none⟩ = some (.int .i64 t162) := (blk_cell BK163.out 5).trans rfl
                                        have hfz66_0 := blk_frozen BK163.out 0
                                        have hfz66_1 := blk_frozen BK163.out 1
                                        have hfz66_2 := blk_frozen BK163.out 2
                                        have hfz66_3 := blk_frozen BK163.out 3
                                        have hfz66_4 := blk_frozen BK163.out 4
                                        have hfz66_5 := blk_frozen BK163.out 5
                                        go_wp2_with (first | ((with_reducible refine gate_callee (f := 17) rfl ?_); refine goesL_ (some 92) rfl rfl Try.func17 (by kernel_rfl) rfl #[.agg #[.int .i64 t157, .int .i64 t158, .int .i64 t159, .int .i64 t160, .int .i64 t161, .int .i64 t162], .int .i64 (Int.tmod (wrap64 (a1)) (wrap64 (t159 * t160))), .int .i64 x86_3] rfl (by (try simp only [List.map_toArray, List.map_cons, List.map_nil]); first | done | rfl | (simp only [List.length_drop, List.length_take]; rfl)) ?_; (with_reducible refine (geom_Shape_Place.calls t157 t158 t159 t160 t161 t162 (Int.tmod (wrap64 (a1)) (wrap64 (t159 * t160))) x86_3 t174 _ A56.out).mono ?_); rintro e w67 ⟨rfl, hb⟩; refine ⟨_, rfl, ?_⟩; have n0_ := Aside0.mk (blk_below (g := gb155) (o := .cells #[.int .u8 a0_0, .int .u8 a0_1, .int .u8 a0_2, .int .u8 a0_3, .int .u8 a0_4, .int .u8 a0_5] 29 (0, 0)) (by (with_reducible repeat (first | refine blk_drewN ?_ _ | refine blk_drew ?_ | refine blk_alloc ?_ _)); exact BK155.out) hb); have n1_ := Aside0.mk (blk_below (g := gb163) (o := .cells #[.int .i64 t157, .int .i64 t158, .int .i64 t159, .int .i64 t160, .int .i64 t161, .int .i64 t162] 23 (0, 0)) (by (with_reducible repeat (first | refine blk_drewN ?_ _ | refine blk_drew ?_ | refine blk_alloc ?_ _)); exact BK163.out) hb); have n2_ := Aside0.mk (below_step (by repeat (first | (with_reducible first | exact HB.out | apply below_alloc | apply pw_below_drewN | apply below_drew1 | refine below_set ?_ GE155.out | refine below_set ?_ GE163.out) | exact HB.out)) hb); clear BK155; clear BK163; clear HB; have BK155 := n0_; have BK163 := n1_; have HB := n2_; clear n0_ n1_ n2_; (try clear hb); (try clear hb2); (try clear hk); (try clear hi); have hcz68_0 : w67.cell? ⟨gb163, 0, none⟩ = some (.int .i64 t157) := (blk_cell BK163.out 0).trans rfl; have hcz68_1 : w67.cell? ⟨gb163, 1, none⟩ = some (.int .i64 t158) := (blk_cell BK163.out 1).trans rfl; have hcz68_2 : w67.cell? ⟨gb163, 2, none⟩ = some (.int .i64 t159) := (blk_cell BK163.out 2).trans rfl; have hcz68_3 : w67.cell? ⟨gb163, 3, none⟩ = some (.int .i64 t160) := (blk_cell BK163.out 3).trans rfl; have hcz68_4 : w67.cell? ⟨gb163, 4, none⟩ = some (.int .i64 t161) := (blk_cell BK163.out 4).trans rfl; have hcz68_5 : w67.cell? ⟨gb163, 5, none⟩ = some (.int .i64 t162) := (blk_cell BK163.out 5).trans rfl; have hfz68_0 := blk_frozen BK163.out 0; have hfz68_1 := blk_frozen BK163.out 1; have hfz68_2 := blk_frozen BK163.out 2; have hfz68_3 := blk_frozen BK163.out 3; have hfz68_4 := blk_frozen BK163.out 4; have hfz68_5 := blk_frozen BK163.out 5) | (go_at_call 18; (with_reducible refine (geom_Shape_Spot.calls t157 t158 t159 t160 t161 t162 t174 t175 t176 _ A58.out).mono ?_); rintro e w69 ⟨rfl, hb⟩; have n0_ := Aside0.mk (blk_below (g := gb155) (o := .cells #[.int .u8 a0_0, .int .u8 a0_1, .int .u8 a0_2, .int .u8 a0_3, .int .u8 a0_4, .int .u8 a0_5] 29 (0, 0)) (by (with_reducible repeat (first | refine blk_drewN ?_ _ | refine blk_drew ?_ | refine blk_alloc ?_ _)); exact BK155.out) hb); have n1_ := Aside0.mk (blk_below (g := gb163) (o := .cells #[.int .i64 t157, .int .i64 t158, .int .i64 t159, .int .i64 t160, .int .i64 t161, .int .i64 t162] 23 (0, 0)) (by (with_reducible repeat (first | refine blk_drewN ?_ _ | refine blk_drew ?_ | refine blk_alloc ?_ _)); exact BK163.out) hb); have n2_ := Aside0.mk (below_step (by repeat (first | (with_reducible first | exact HB.out | apply below_alloc | apply pw_below_drewN | apply below_drew1 | refine below_set ?_ GE155.out | refine below_set ?_ GE163.out) | exact HB.out)) hb); clear BK155; clear BK163; clear HB; have BK155 := n0_; have BK163 := n1_; have HB := n2_; clear n0_ n1_ n2_; (try clear hb); (try clear hb2); (try clear hk); (try clear hi)))
                                        go_roundg k3
                                        case measure => have := HK1.out; have := HK2.out; have := HK3.out; omega
                                        case rel => exact ⟨(wrap64 (x86_3 + 1)), (by first | rfl | (simp; done) | (simp [*]; done)), H', ⟨by have := HK1.out; have := HK2.out; have := HK3.out; omega⟩, ⟨by (try simp only [hl7_1]); (with_reducible repeat (first | refine blk_drewN ?_ _ | refine blk_drew ?_ | refine blk_alloc ?_ _)); exact BK155.out⟩, ⟨by (try simp only [hl7_1]); (with_reducible repeat (first | refine blk_drewN ?_ _ | refine blk_drew ?_ | refine blk_alloc ?_ _)); exact BK163.out⟩, ⟨by repeat (first | (with_reducible first | exact HB.out | apply below_alloc | apply pw_below_drewN | apply below_drew1 | refine below_set ?_ GE155.out | refine below_set ?_ GE163.out) | exact HB.out)⟩⟩
                                    · rw [if_neg c57] at H
                                      have c57b0 : (t174 == (wrap64 ((wrap64 ((Int.tmod (wrap64 (a1)) (wrap64 (t159 * t160))) * (wrap64 (t157 - 2)))) + x86_3))) = false := beq_eq_false_iff_ne.mpr c57
                                      have c57b1 : (t174 != (wrap64 ((wrap64 ((Int.tmod (wrap64 (a1)) (wrap64 (t159 * t160))) * (wrap64 (t157 - 2)))) + x86_3))) = true := bne_iff_ne.mpr c57
                                      obtain rfl := Option.some.inj H
                                      have hnb70 := NB163_155.out
                                      have hnc70 := NB155_163.out
                                      have hcz71_0 : wr.cell? ⟨gb163, 0, none⟩ = some (.int .i64 t157) := (blk_cell BK163.out 0).trans rfl
                                      have hcz71_1 : wr.cell? ⟨gb163, 1, none⟩ = some (.int .i64 t158) := (blk_cell BK163.out 1).trans rfl
                                      have hcz71_2 : wr.cell? ⟨gb163, 2, none⟩ = some (.int .i64 t159) := (blk_cell BK163.out 2).trans rfl
                                      have hcz71_3 : wr.cell? ⟨gb163, 3, none⟩ = some (.int .i64 t160) := (blk_cell BK163.out 3).trans rfl
                                      have hcz71_4 : wr.cell? ⟨gb163, 4, none⟩ = some (.int .i64 t161) := (blk_cell BK163.out 4).trans rfl
                                      have hcz71_5 : wr.cell? ⟨gb163, 5, none⟩ = some (.int .i64 t162) := (blk_cell BK163.out 5).trans rfl
                                      have hfz71_0 := blk_frozen BK163.out 0
                                      have hfz71_1 := blk_frozen BK163.out 1
                                      have hfz71_2 := blk_frozen BK163.out 2
                                      have hfz71_3 := blk_frozen BK163.out 3
                                      have hfz71_4 := blk_frozen BK163.out 4
                                      have hfz71_5 := blk_frozen BK163.out 5
                                      go_wp2_with (first | ((with_reducible refine gate_callee (f := 17) rfl ?_); refine goesL_ (some 92) rfl rfl Try.func17 (by kernel_rfl) rfl #[.agg #[.int .i64 t157, .int .i64 t158, .int .i64 t159, .int .i64 t160, .int .i64 t161, .int .i64 t162], .int .i64 (Int.tmod (wrap64 (a1)) (wrap64 (t159 * t160))), .int .i64 x86_3] rfl (by (try simp only [List.map_toArray, List.map_cons, List.map_nil]); first | done | rfl | (simp only [List.length_drop, List.length_take]; rfl)) ?_; (with_reducible refine (geom_Shape_Place.calls t157 t158 t159 t160 t161 t162 (Int.tmod (wrap64 (a1)) (wrap64 (t159 * t160))) x86_3 t174 _ A56.out).mono ?_); rintro e w72 ⟨rfl, hb⟩; refine ⟨_, rfl, ?_⟩; have n0_ := Aside0.mk (blk_below (g := gb155) (o := .cells #[.int .u8 a0_0, .int .u8 a0_1, .int .u8 a0_2, .int .u8 a0_3, .int .u8 a0_4, .int .u8 a0_5] 29 (0, 0)) (by (with_reducible repeat (first | refine blk_drewN ?_ _ | refine blk_drew ?_ | refine blk_alloc ?_ _)); exact BK155.out) hb); have n1_ := Aside0.mk (blk_below (g := gb163) (o := .cells #[.int .i64 t157, .int .i64 t158, .int .i64 t159, .int .i64 t160, .int .i64 t161, .int .i64 t162] 23 (0, 0)) (by (with_reducible repeat (first | refine blk_drewN ?_ _ | refine blk_drew ?_ | refine blk_alloc ?_ _)); exact BK163.out) hb); have n2_ := Aside0.mk (below_step (by repeat (first | (with_reducible first | exact HB.out | apply below_alloc | apply pw_below_drewN | apply below_drew1 | refine below_set ?_ GE155.out | refine below_set ?_ GE163.out) | exact HB.out)) hb); clear BK155; clear BK163; clear HB; have BK155 := n0_; have BK163 := n1_; have HB := n2_; clear n0_ n1_ n2_; (try clear hb); (try clear hb2); (try clear hk); (try clear hi); have hcz73_0 : w72.cell? ⟨gb163, 0, none⟩ = some (.int .i64 t157) := (blk_cell BK163.out 0).trans rfl; have hcz73_1 : w72.cell? ⟨gb163, 1, none⟩ = some (.int .i64 t158) := (blk_cell BK163.out 1).trans rfl; have hcz73_2 : w72.cell? ⟨gb163, 2, none⟩ = some (.int .i64 t159) := (blk_cell BK163.out 2).trans rfl; have hcz73_3 : w72.cell? ⟨gb163, 3, none⟩ = some (.int .i64 t160) := (blk_cell BK163.out 3).trans rfl; have hcz73_4 : w72.cell? ⟨gb163, 4, none⟩ = some (.int .i64 t161) := (blk_cell BK163.out 4).trans rfl; have hcz73_5 : w72.cell? ⟨gb163, 5, none⟩ = some (.int .i64 t162) := (blk_cell BK163.out 5).trans rfl; have hfz73_0 := blk_frozen BK163.out 0; have hfz73_1 := blk_frozen BK163.out 1; have hfz73_2 := blk_frozen BK163.out 2; have hfz73_3 := blk_frozen BK163.out 3; have hfz73_4 := blk_frozen BK163.out 4; have hfz73_5 := blk_frozen BK163.out 5))
                                      go_ret
                                      exact ⟨by first | rfl | (simp [errW_none, errW_some] <;> rfl) | (simp only [← hji12]; first | rfl | (simp [errW_none, errW_some] <;> rfl)) | (simp [*, errW_none, errW_some] <;> rfl), by repeat (first | (with_reducible first | exact HB.out | apply below_alloc | apply pw_below_drewN | apply below_drew1 | refine below_set ?_ GE155.out | refine below_set ?_ GE163.out) | exact HB.out)⟩
                                  · rw [if_neg c55] at H
                                    have c55b0 : decide (x86_3 < (wrap64 (t157 - 2))) = false := decide_eq_false c55
                                    clear c55
                                    obtain rfl := Option.some.inj H
                                    go_wp2
                                    go_ret
                                    exact ⟨by first | rfl | (simp [errW_none, errW_some] <;> rfl) | (simp only [← hji12]; first | rfl | (simp [errW_none, errW_some] <;> rfl)) | (simp [*, errW_none, errW_some] <;> rfl), by repeat (first | (with_reducible first | exact HB.out | apply below_alloc | apply pw_below_drewN | apply below_drew1 | refine below_set ?_ GE155.out | refine below_set ?_ GE163.out) | exact HB.out)⟩
                · rw [if_neg c14] at H
                  exact absurd H (by simp)
              · rw [if_neg c13] at H
                exact absurd H (by simp)
            · rw [if_neg c11] at H
              have c11b0 : (t167 == (Int.tmod (Int.tmod (wrap64 (a1)) (wrap64 (t159 * t160))) t157)) = false := beq_eq_false_iff_ne.mpr c11
              have c11b1 : (t167 != (Int.tmod (Int.tmod (wrap64 (a1)) (wrap64 (t159 * t160))) t157)) = true := bne_iff_ne.mpr c11
              obtain rfl := Option.some.inj H
              go_enter Try.func6, Try.ntmps6
              go_wp2_with (first | ((with_reducible refine gate_dst (N := 2) rfl ?_); refine box_event ?hg (N := 2) ?hd (cs := #[.int .u8 a0_0, .int .u8 a0_1, .int .u8 a0_2, .int .u8 a0_3, .int .u8 a0_4, .int .u8 a0_5]) (t := 29) ?hr ?_; (case hd => rfl); (case hg => rfl); (case hr => first | (go_simp; done) | (go_simp; rfl)); intro gb155 hg w74 hbox hb; have n0_ := Aside0.mk (below_step (by repeat (first | (with_reducible first | exact HB.out | apply below_alloc | apply pw_below_drewN | apply below_drew1) | exact HB.out)) hb); have n1_ := Aside0.mk (hbox); have n2_ := Aside0.mk ((by rw [hg]; exact (below_size (by repeat (first | (with_reducible first | exact HB.out | apply below_alloc | apply pw_below_drewN | apply below_drew1) | exact HB.out))) : w.heap.size ≤ gb155)); have n3_ := Aside0.mk ((by rw [hg]; exact (below_size (by repeat (first | (with_reducible first | exact HB.out | apply below_alloc | apply pw_below_drewN | apply below_drew1) | exact HB.out))) : w.heap.size ≤ gb155)); clear HB; have HB := n0_; have BK155 := n1_; have GW155 := n2_; have GE155 := n3_; clear n0_ n1_ n2_ n3_; clear hb hbox hg) | ((with_reducible refine gate_callee (f := 10) rfl ?_); refine goesL_ (some 15) rfl rfl Try.func10 (by kernel_rfl) rfl #[] rfl (by (try simp only [List.map_toArray, List.map_cons, List.map_nil]); first | done | rfl | (simp only [List.length_drop, List.length_take]; rfl)) ?_; (with_reducible refine (drystonelaw05_Awake.calls k  true _ A3.out).mono ?_); rintro e w75 ⟨rfl, hb⟩; refine ⟨_, rfl, ?_⟩; have n0_ := Aside0.mk (blk_below (g := gb155) (o := .cells #[.int .u8 a0_0, .int .u8 a0_1, .int .u8 a0_2, .int .u8 a0_3, .int .u8 a0_4, .int .u8 a0_5] 29 (0, 0)) (by (with_reducible repeat (first | refine blk_drewN ?_ _ | refine blk_drew ?_ | refine blk_alloc ?_ _)); exact BK155.out) hb); have n1_ := Aside0.mk (below_step (by repeat (first | (with_reducible first | exact HB.out | apply below_alloc | apply pw_below_drewN | apply below_drew1 | refine below_set ?_ GE155.out) | exact HB.out)) hb); clear BK155; clear HB; have BK155 := n0_; have HB := n1_; clear n0_ n1_; (try clear hb); (try clear hb2); (try clear hk); (try clear hi); have hcz76_0 : w75.cell? ⟨gb155, 0, none⟩ = some (.int .u8 a0_0) := (blk_cell BK155.out 0).trans rfl; have hcz76_1 : w75.cell? ⟨gb155, 1, none⟩ = some (.int .u8 a0_1) := (blk_cell BK155.out 1).trans rfl; have hcz76_2 : w75.cell? ⟨gb155, 2, none⟩ = some (.int .u8 a0_2) := (blk_cell BK155.out 2).trans rfl; have hcz76_3 : w75.cell? ⟨gb155, 3, none⟩ = some (.int .u8 a0_3) := (blk_cell BK155.out 3).trans rfl; have hcz76_4 : w75.cell? ⟨gb155, 4, none⟩ = some (.int .u8 a0_4) := (blk_cell BK155.out 4).trans rfl; have hcz76_5 : w75.cell? ⟨gb155, 5, none⟩ = some (.int .u8 a0_5) := (blk_cell BK155.out 5).trans rfl; have hfz76_0 := blk_frozen BK155.out 0; have hfz76_1 := blk_frozen BK155.out 1; have hfz76_2 := blk_frozen BK155.out 2; have hfz76_3 := blk_frozen BK155.out 3; have hfz76_4 := blk_frozen BK155.out 4; have hfz76_5 := blk_frozen BK155.out 5) | ((with_reducible refine gate_callee (f := 13) rfl ?_); refine goesL_ (some 18) rfl rfl Try.func13 (by kernel_rfl) rfl #[.agg #[.int .u8 a0_0, .int .u8 a0_1, .int .u8 a0_2, .int .u8 a0_3, .int .u8 a0_4, .int .u8 a0_5]] rfl (by (try simp only [List.map_toArray, List.map_cons, List.map_nil]); first | done | rfl | (simp only [List.length_drop, List.length_take]; rfl)) ?_; (with_reducible refine (drystonelaw05_Shape.calls a0_0 a0_1 a0_2 a0_3 a0_4 a0_5 t157 t158 t159 t160 t161 t162 _ A5.out).mono ?_); rintro e w77 ⟨rfl, hb⟩; refine ⟨_, rfl, ?_⟩; have n0_ := Aside0.mk (blk_below (g := gb155) (o := .cells #[.int .u8 a0_0, .int .u8 a0_1, .int .u8 a0_2, .int .u8 a0_3, .int .u8 a0_4, .int .u8 a0_5] 29 (0, 0)) (by (with_reducible repeat (first | refine blk_drewN ?_ _ | refine blk_drew ?_ | refine blk_alloc ?_ _)); exact BK155.out) hb); have n1_ := Aside0.mk (below_step (by repeat (first | (with_reducible first | exact HB.out | apply below_alloc | apply pw_below_drewN | apply below_drew1 | refine below_set ?_ GE155.out) | exact HB.out)) hb); clear BK155; clear HB; have BK155 := n0_; have HB := n1_; clear n0_ n1_; (try clear hb); (try clear hb2); (try clear hk); (try clear hi)) | ((with_reducible refine gate_dst (N := 5) rfl ?_); refine box_event ?hg (N := 5) ?hd (cs := #[.int .i64 0, .int .i64 0, .int .i64 0, .int .i64 0, .int .i64 0, .int .i64 0]) (t := 23) ?hr ?_; (case hd => rfl); (case hg => rfl); (case hr => first | (go_simp; done) | (go_simp; rfl)); intro gb163 hg w78 hbox hb; have n0_ := Aside0.mk (blk_below (g := gb155) (o := .cells #[.int .u8 a0_0, .int .u8 a0_1, .int .u8 a0_2, .int .u8 a0_3, .int .u8 a0_4, .int .u8 a0_5] 29 (0, 0)) (by (with_reducible repeat (first | refine blk_drewN ?_ _ | refine blk_drew ?_ | refine blk_alloc ?_ _)); exact BK155.out) hb); have n1_ := Aside0.mk (below_step (by repeat (first | (with_reducible first | exact HB.out | apply below_alloc | apply pw_below_drewN | apply below_drew1 | refine below_set ?_ GE155.out) | exact HB.out)) hb); have n2_ := Aside0.mk (hbox); have n3_ := Aside0.mk ((by rw [hg]; exact (below_size (by repeat (first | (with_reducible first | exact HB.out | apply below_alloc | apply pw_below_drewN | apply below_drew1 | refine below_set ?_ GE155.out) | exact HB.out))) : w.heap.size ≤ gb163)); have n4_ := Aside0.mk ((by rw [hg]; exact (below_size (by repeat (first | (with_reducible first | exact HB.out | apply below_alloc | apply pw_below_drewN | apply below_drew1 | refine below_set ?_ GE155.out) | exact HB.out))) : w.heap.size ≤ gb163)); have n5_ := Aside0.mk ((by rw [hg]; exact Nat.ne_of_lt (blk_lt (g := gb155) (o := .cells #[.int .u8 a0_0, .int .u8 a0_1, .int .u8 a0_2, .int .u8 a0_3, .int .u8 a0_4, .int .u8 a0_5] 29 (0, 0)) (by (with_reducible repeat (first | refine blk_drewN ?_ _ | refine blk_drew ?_ | refine blk_alloc ?_ _)); exact BK155.out)) : gb155 ≠ gb163)); have n6_ := Aside0.mk ((by rw [hg]; exact Nat.ne_of_gt (blk_lt (g := gb155) (o := .cells #[.int .u8 a0_0, .int .u8 a0_1, .int .u8 a0_2, .int .u8 a0_3, .int .u8 a0_4, .int .u8 a0_5] 29 (0, 0)) (by (with_reducible repeat (first | refine blk_drewN ?_ _ | refine blk_drew ?_ | refine blk_alloc ?_ _)); exact BK155.out)) : gb163 ≠ gb155)); clear BK155; clear HB; have BK155 := n0_; have HB := n1_; have BK163 := n2_; have GW163 := n3_; have GE163 := n4_; have NB155_163 := n5_; have NB163_155 := n6_; clear n0_ n1_ n2_ n3_ n4_ n5_ n6_; clear hb hbox hg; have hnb79 := NB163_155.out; have hnc79 := NB155_163.out; have hcz80_0 : w78.cell? ⟨gb163, 0, none⟩ = some (.int .i64 0) := (blk_cell BK163.out 0).trans rfl; have hcz80_1 : w78.cell? ⟨gb163, 1, none⟩ = some (.int .i64 0) := (blk_cell BK163.out 1).trans rfl; have hcz80_2 : w78.cell? ⟨gb163, 2, none⟩ = some (.int .i64 0) := (blk_cell BK163.out 2).trans rfl; have hcz80_3 : w78.cell? ⟨gb163, 3, none⟩ = some (.int .i64 0) := (blk_cell BK163.out 3).trans rfl; have hcz80_4 : w78.cell? ⟨gb163, 4, none⟩ = some (.int .i64 0) := (blk_cell BK163.out 4).trans rfl; have hcz80_5 : w78.cell? ⟨gb163, 5, none⟩ = some (.int .i64 0) := (blk_cell BK163.out 5).trans rfl; have hfz80_0 := blk_frozen BK163.out 0; have hfz80_1 := blk_frozen BK163.out 1; have hfz80_2 := blk_frozen BK163.out 2; have hfz80_3 := blk_frozen BK163.out 3; have hfz80_4 := blk_frozen BK163.out 4; have hfz80_5 := blk_frozen BK163.out 5) | ((with_reducible refine gate_dst (N := 29) rfl ?_); refine Kd.R_make (Kd.int .i64) _ 3 rfl (N := 29) rfl 35 _ _ rfl t157 rfl rfl Try.underlying35 (.int .i64 0) 8 info3 rfl (by decide) (by omega) 0 (ok := fun _ => True) (okp := fun _ => True) rfl (fun _ hk => hk) trivial (of_decide_eq_true (by first | (with_reducible assumption) | assumption)) (Nat.le_trans (Nat.mul_le_mul_right _ (of_decide_eq_true (by first | (with_reducible assumption) | assumption) : t157.toNat ≤ 35184372088832)) (by omega)) (Below.refl _ _) (Nat.le_refl _) ?_; intro v165 w81 ho82 hb hg_ hnew_; clear hg_ hnew_; (first | rw [← Ny164.out] at ho82 | (simp only [Int.reduceToNat] at ho82; rw [← Ny164.out] at ho82)); have n0_ := Aside0.mk (Kd.R_lower ho82 (below_size (by repeat (first | (with_reducible first | exact HB.out | apply below_alloc | apply pw_below_drewN | apply below_drew1 | refine below_set ?_ GE155.out | refine below_set ?_ GE163.out) | exact HB.out)))); have n1_ := Aside0.mk (blk_below (g := gb155) (o := .cells #[.int .u8 a0_0, .int .u8 a0_1, .int .u8 a0_2, .int .u8 a0_3, .int .u8 a0_4, .int .u8 a0_5] 29 (0, 0)) (by (with_reducible repeat (first | refine blk_drewN ?_ _ | refine blk_drew ?_ | refine blk_alloc ?_ _)); refine blk_far ?_ NB155_163.out _; (with_reducible repeat (first | refine blk_drewN ?_ _ | refine blk_drew ?_ | refine blk_alloc ?_ _)); refine blk_far ?_ NB155_163.out _; (with_reducible repeat (first | refine blk_drewN ?_ _ | refine blk_drew ?_ | refine blk_alloc ?_ _)); refine blk_far ?_ NB155_163.out _; (with_reducible repeat (first | refine blk_drewN ?_ _ | refine blk_drew ?_ | refine blk_alloc ?_ _)); refine blk_far ?_ NB155_163.out _; (with_reducible repeat (first | refine blk_drewN ?_ _ | refine blk_drew ?_ | refine blk_alloc ?_ _)); refine blk_far ?_ NB155_163.out _; (with_reducible repeat (first | refine blk_drewN ?_ _ | refine blk_drew ?_ | refine blk_alloc ?_ _)); refine blk_far ?_ NB155_163.out _; (with_reducible repeat (first | refine blk_drewN ?_ _ | refine blk_drew ?_ | refine blk_alloc ?_ _)); exact BK155.out) hb); have n2_ := Aside0.mk (blk_below (g := gb163) (o := .cells #[.int .i64 t157, .int .i64 t158, .int .i64 t159, .int .i64 t160, .int .i64 t161, .int .i64 t162] 23 (0, 0)) (by (with_reducible repeat (first | refine blk_drewN ?_ _ | refine blk_drew ?_ | refine blk_alloc ?_ _)); refine blk_put (cs := #[.int .i64 t157, .int .i64 t158, .int .i64 t159, .int .i64 t160, .int .i64 t161, .int .i64 0]) ?_ 5 _ rfl; (with_reducible repeat (first | refine blk_drewN ?_ _ | refine blk_drew ?_ | refine blk_alloc ?_ _)); refine blk_put (cs := #[.int .i64 t157, .int .i64 t158, .int .i64 t159, .int .i64 t160, .int .i64 0, .int .i64 0]) ?_ 4 _ rfl; (with_reducible repeat (first | refine blk_drewN ?_ _ | refine blk_drew ?_ | refine blk_alloc ?_ _)); refine blk_put (cs := #[.int .i64 t157, .int .i64 t158, .int .i64 t159, .int .i64 0, .int .i64 0, .int .i64 0]) ?_ 3 _ rfl; (with_reducible repeat (first | refine blk_drewN ?_ _ | refine blk_drew ?_ | refine blk_alloc ?_ _)); refine blk_put (cs := #[.int .i64 t157, .int .i64 t158, .int .i64 0, .int .i64 0, .int .i64 0, .int .i64 0]) ?_ 2 _ rfl; (with_reducible repeat (first | refine blk_drewN ?_ _ | refine blk_drew ?_ | refine blk_alloc ?_ _)); refine blk_put (cs := #[.int .i64 t157, .int .i64 0, .int .i64 0, .int .i64 0, .int .i64 0, .int .i64 0]) ?_ 1 _ rfl; (with_reducible repeat (first | refine blk_drewN ?_ _ | refine blk_drew ?_ | refine blk_alloc ?_ _)); refine blk_put (cs := #[.int .i64 0, .int .i64 0, .int .i64 0, .int .i64 0, .int .i64 0, .int .i64 0]) ?_ 0 _ rfl; (with_reducible repeat (first | refine blk_drewN ?_ _ | refine blk_drew ?_ | refine blk_alloc ?_ _)); exact BK163.out) hb); have n3_ := Aside0.mk (below_step (by repeat (first | (with_reducible first | exact HB.out | apply below_alloc | apply pw_below_drewN | apply below_drew1 | refine below_set ?_ GE155.out | refine below_set ?_ GE163.out) | exact HB.out)) hb); clear BK155; clear BK163; clear HB; have HO166 := n0_; have BK155 := n1_; have BK163 := n2_; have HB := n3_; clear n0_ n1_ n2_ n3_; clear hb ho82; have hcz83_0 : w81.cell? ⟨gb163, 0, none⟩ = some (.int .i64 t157) := (blk_cell BK163.out 0).trans rfl; have hcz83_1 : w81.cell? ⟨gb163, 1, none⟩ = some (.int .i64 t158) := (blk_cell BK163.out 1).trans rfl; have hcz83_2 : w81.cell? ⟨gb163, 2, none⟩ = some (.int .i64 t159) := (blk_cell BK163.out 2).trans rfl; have hcz83_3 : w81.cell? ⟨gb163, 3, none⟩ = some (.int .i64 t160) := (blk_cell BK163.out 3).trans rfl; have hcz83_4 : w81.cell? ⟨gb163, 4, none⟩ = some (.int .i64 t161) := (blk_cell BK163.out 4).trans rfl; have hcz83_5 : w81.cell? ⟨gb163, 5, none⟩ = some (.int .i64 t162) := (blk_cell BK163.out 5).trans rfl; have hfz83_0 := blk_frozen BK163.out 0; have hfz83_1 := blk_frozen BK163.out 1; have hfz83_2 := blk_frozen BK163.out 2; have hfz83_3 := blk_frozen BK163.out 3; have hfz83_4 := blk_frozen BK163.out 4; have hfz83_5 := blk_frozen BK163.out 5) | ((with_reducible refine gate_callee (f := 15) rfl ?_); refine goesL_ (some 32) rfl rfl Try.func15 (by kernel_rfl) rfl #[.agg #[.int .i64 t157, .int .i64 t158, .int .i64 t159, .int .i64 t160, .int .i64 t161, .int .i64 t162], .int .i64 (Int.tmod (wrap64 (a1)) (wrap64 (t159 * t160)))] rfl (by (try simp only [List.map_toArray, List.map_cons, List.map_nil]); first | done | rfl | (simp only [List.length_drop, List.length_take]; rfl)) ?_; (with_reducible refine (geom_Shape_Parity.calls t157 t158 t159 t160 t161 t162 (Int.tmod (wrap64 (a1)) (wrap64 (t159 * t160))) t167 _ A9.out).mono ?_); rintro e w84 ⟨rfl, hb⟩; refine ⟨_, rfl, ?_⟩; have n0_ := Aside0.mk (Kd.R_below (by (with_reducible repeat (first | apply Kd.R_alloc | apply Kd.R_drewN | apply Kd.R_drew)); exact HO166.out) hb); have n1_ := Aside0.mk (blk_below (g := gb155) (o := .cells #[.int .u8 a0_0, .int .u8 a0_1, .int .u8 a0_2, .int .u8 a0_3, .int .u8 a0_4, .int .u8 a0_5] 29 (0, 0)) (by (with_reducible repeat (first | refine blk_drewN ?_ _ | refine blk_drew ?_ | refine blk_alloc ?_ _)); exact BK155.out) hb); have n2_ := Aside0.mk (blk_below (g := gb163) (o := .cells #[.int .i64 t157, .int .i64 t158, .int .i64 t159, .int .i64 t160, .int .i64 t161, .int .i64 t162] 23 (0, 0)) (by (with_reducible repeat (first | refine blk_drewN ?_ _ | refine blk_drew ?_ | refine blk_alloc ?_ _)); exact BK163.out) hb); have n3_ := Aside0.mk (below_step (by repeat (first | (with_reducible first | exact HB.out | apply below_alloc | apply pw_below_drewN | apply below_drew1 | refine below_set ?_ GE155.out | refine below_set ?_ GE163.out) | exact HB.out)) hb); clear HO166; clear BK155; clear BK163; clear HB; have HO166 := n0_; have BK155 := n1_; have BK163 := n2_; have HB := n3_; clear n0_ n1_ n2_ n3_; (try clear hb); (try clear hb2); (try clear hk); (try clear hi); have hcz85_0 : w84.cell? ⟨gb163, 0, none⟩ = some (.int .i64 t157) := (blk_cell BK163.out 0).trans rfl; have hcz85_1 : w84.cell? ⟨gb163, 1, none⟩ = some (.int .i64 t158) := (blk_cell BK163.out 1).trans rfl; have hcz85_2 : w84.cell? ⟨gb163, 2, none⟩ = some (.int .i64 t159) := (blk_cell BK163.out 2).trans rfl; have hcz85_3 : w84.cell? ⟨gb163, 3, none⟩ = some (.int .i64 t160) := (blk_cell BK163.out 3).trans rfl; have hcz85_4 : w84.cell? ⟨gb163, 4, none⟩ = some (.int .i64 t161) := (blk_cell BK163.out 4).trans rfl; have hcz85_5 : w84.cell? ⟨gb163, 5, none⟩ = some (.int .i64 t162) := (blk_cell BK163.out 5).trans rfl; have hfz85_0 := blk_frozen BK163.out 0; have hfz85_1 := blk_frozen BK163.out 1; have hfz85_2 := blk_frozen BK163.out 2; have hfz85_3 := blk_frozen BK163.out 3; have hfz85_4 := blk_frozen BK163.out 4; have hfz85_5 := blk_frozen BK163.out 5))
              go_ret
              exact ⟨by first | rfl | (simp [errW_none, errW_some] <;> rfl) | (simp [*, errW_none, errW_some] <;> rfl), by repeat (first | (with_reducible first | exact HB.out | apply below_alloc | apply pw_below_drewN | apply below_drew1 | refine below_set ?_ GE155.out | refine below_set ?_ GE163.out) | exact HB.out)⟩
        · rw [if_neg c8] at H
          exact absurd H (by simp)
      · rw [if_neg c7] at H
        exact absurd H (by simp)
  · replace c4 := Bool.eq_false_iff.mpr c4
    subst c4
    have H1 : (some false) = some r := by rw [if_neg (show ¬ (false = true) by decide)] at H; exact H
    clear H
    have H := H1
    clear H1
    obtain rfl := Option.some.inj H
    go_enter Try.func6, Try.ntmps6
    go_wp2_with (first | ((with_reducible refine gate_dst (N := 2) rfl ?_); refine box_event ?hg (N := 2) ?hd (cs := #[.int .u8 a0_0, .int .u8 a0_1, .int .u8 a0_2, .int .u8 a0_3, .int .u8 a0_4, .int .u8 a0_5]) (t := 29) ?hr ?_; (case hd => rfl); (case hg => rfl); (case hr => first | (go_simp; done) | (go_simp; rfl)); intro gb155 hg w86 hbox hb; have n0_ := Aside0.mk (below_step (by repeat (first | (with_reducible first | exact HB.out | apply below_alloc | apply pw_below_drewN | apply below_drew1) | exact HB.out)) hb); have n1_ := Aside0.mk (hbox); have n2_ := Aside0.mk ((by rw [hg]; exact (below_size (by repeat (first | (with_reducible first | exact HB.out | apply below_alloc | apply pw_below_drewN | apply below_drew1) | exact HB.out))) : w.heap.size ≤ gb155)); have n3_ := Aside0.mk ((by rw [hg]; exact (below_size (by repeat (first | (with_reducible first | exact HB.out | apply below_alloc | apply pw_below_drewN | apply below_drew1) | exact HB.out))) : w.heap.size ≤ gb155)); clear HB; have HB := n0_; have BK155 := n1_; have GW155 := n2_; have GE155 := n3_; clear n0_ n1_ n2_ n3_; clear hb hbox hg) | ((with_reducible refine gate_callee (f := 10) rfl ?_); refine goesL_ (some 15) rfl rfl Try.func10 (by kernel_rfl) rfl #[] rfl (by (try simp only [List.map_toArray, List.map_cons, List.map_nil]); first | done | rfl | (simp only [List.length_drop, List.length_take]; rfl)) ?_; (with_reducible refine (drystonelaw05_Awake.calls k  false _ A3.out).mono ?_); rintro e w87 ⟨rfl, hb⟩; refine ⟨_, rfl, ?_⟩; have n0_ := Aside0.mk (blk_below (g := gb155) (o := .cells #[.int .u8 a0_0, .int .u8 a0_1, .int .u8 a0_2, .int .u8 a0_3, .int .u8 a0_4, .int .u8 a0_5] 29 (0, 0)) (by (with_reducible repeat (first | refine blk_drewN ?_ _ | refine blk_drew ?_ | refine blk_alloc ?_ _)); exact BK155.out) hb); have n1_ := Aside0.mk (below_step (by repeat (first | (with_reducible first | exact HB.out | apply below_alloc | apply pw_below_drewN | apply below_drew1 | refine below_set ?_ GE155.out) | exact HB.out)) hb); clear BK155; clear HB; have BK155 := n0_; have HB := n1_; clear n0_ n1_; (try clear hb); (try clear hb2); (try clear hk); (try clear hi)))
    go_ret
    exact ⟨by first | rfl | (simp [errW_none, errW_some] <;> rfl) | (simp [*, errW_none, errW_some] <;> rfl), by repeat (first | (with_reducible first | exact HB.out | apply below_alloc | apply pw_below_drewN | apply below_drew1 | refine below_set ?_ GE155.out) | exact HB.out)⟩

end Go.Proofs.Ytidakgfblehipaa.G

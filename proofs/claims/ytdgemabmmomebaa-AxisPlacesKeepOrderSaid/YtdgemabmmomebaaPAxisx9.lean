-- PRINTED by print.py (a twelfth state) out of the translation. Not trusted: Lean checks it.
import Derived.Test.YtdgemabmmomebaaPAxisx0
import Derived.Test.YtdgemabmmomebaaPAxisx4
import Derived.Test.YtdgemabmmomebaaPAxisx7
import Derived.Test.YtdgemabmmomebaaPAxisx8
import Derived.Test.YtdgemabmmomebaaAxisPlugF
namespace Go.Proofs.Ytdgemabmmomebaa.PAxis
open Go.RowKit Go.Proofs.YtdgemabmmomebaaW.PrintWords Go.Proofs.YtdgemabmmomebaaW.PrintLast Go.Proofs.YtdgemabmmomebaaW.PrintMore
attribute [local go_sem] max2_int min2_int max_two min_two max_three min_three max_four min_four   -- for this text's walks alone
set_option linter.unusedVariables false
set_option linter.unusedSimpArgs false
attribute [local go_sem high] Go.Proofs.Ytdgemabmmomebaa.Ord.leq_str Go.Proofs.Ytdgemabmmomebaa.Ord.gtr_str Go.Proofs.Ytdgemabmmomebaa.Ord.geq_str

/-! ### chancerykeep1_AxisPlacesKeepOrder: function 9 -/
mutual
def chancerykeep1_AxisPlacesKeepOrder.l0 : Nat → Int → Int → Int → List (S97) → Int → Int → Int → List Int → Int → Int → Option (Bool)
  | 0, _, _, _, _, _, _, _, _, _, _ => none
  | k + 1, x0, x2, x3, x9, x10, x11, x12, x13, x47, x48 => if x48 < x47 then (if x13.length < 17592186044416 then (chancerykeep1_AxisPlacesKeepOrder.l0 k x0 x2 x3 x9 x10 x11 x12 (x13 ++ [x48]) x47 (wrap64 (x48 + 1))) else (none)) else ((axis_Apply.f k x9 x13).bind fun bt231 => (if x12 = 0 then (if bt231.2 = 0 then (chancerykeep1_AxisPlacesKeepOrder.j1 k x2 x3 x9 x10 x11 bt231.1 ((bt231.1.length : Int) != x0)) else (chancerykeep1_AxisPlacesKeepOrder.j1 k x2 x3 x9 x10 x11 bt231.1 true)) else (chancerykeep1_AxisPlacesKeepOrder.j1 k x2 x3 x9 x10 x11 bt231.1 true)))
def chancerykeep1_AxisPlacesKeepOrder.j1 : Nat → Int → Int → List (S97) → Int → Int → List Int → Bool → Option (Bool)
  | 0, _, _, _, _, _, _, _ => none
  | k + 1, x2, x3, x9, x10, x11, x15, x73 => if x73 = true then (some false) else (chancerykeep1_AxisPlacesKeepOrder.l1 k x2 x3 x9 x10 x11 (-1) 0 x15 (x15.length : Int) 0)
def chancerykeep1_AxisPlacesKeepOrder.l1 : Nat → Int → Int → List (S97) → Int → Int → Int → Int → List Int → Int → Int → Option (Bool)
  | 0, _, _, _, _, _, _, _, _, _, _ => none
  | k + 1, x2, x3, x9, x10, x11, x17, x18, x74, x75, x76 => if x76 < x75 then (if 0 ≤ x76 then (if x76 < (x74.length : Int) then ((axis_Gap.f k x9 x76 false).bind fun bt236 => ((axis_Gap.f k x9 x76 true).bind fun bt238 => (if bt236.2 = 0 then (if bt238.2 = 0 then (if bt236.1 > bt238.1 then (chancerykeep1_AxisPlacesKeepOrder.j3 k x2 x3 x9 x10 x11 x17 x18 x76 (rd x74 x76) x74 x75 x76 true) else (if (rd x74 x76) ≥ 0 then (if (rd x74 x76) ≤ x17 then (chancerykeep1_AxisPlacesKeepOrder.j3 k x2 x3 x9 x10 x11 x17 x18 x76 (rd x74 x76) x74 x75 x76 true) else (if bt238.1 > (rd x74 x76) then (chancerykeep1_AxisPlacesKeepOrder.j3 k x2 x3 x9 x10 x11 x17 x18 x76 (rd x74 x76) x74 x75 x76 true) else (chancerykeep1_AxisPlacesKeepOrder.j3 k x2 x3 x9 x10 x11 x17 x18 x76 (rd x74 x76) x74 x75 x76 (decide (bt236.1 < (wrap64 (x17 + 1))))))) else (chancerykeep1_AxisPlacesKeepOrder.j3 k x2 x3 x9 x10 x11 x17 x18 x76 (rd x74 x76) x74 x75 x76 (decide (bt236.1 < (wrap64 (x17 + 1))))))) else (chancerykeep1_AxisPlacesKeepOrder.j3 k x2 x3 x9 x10 x11 x17 x18 x76 (rd x74 x76) x74 x75 x76 true)) else (chancerykeep1_AxisPlacesKeepOrder.j3 k x2 x3 x9 x10 x11 x17 x18 x76 (rd x74 x76) x74 x75 x76 true)))) else (none)) else (none)) else (if x18 > 0 then (some true) else (if x10 = 0 then (some (x11 == 0)) else (some false)))
def chancerykeep1_AxisPlacesKeepOrder.j3 : Nat → Int → Int → List (S97) → Int → Int → Int → Int → Int → Int → List Int → Int → Int → Bool → Option (Bool)
  | 0, _, _, _, _, _, _, _, _, _, _, _, _, _ => none
  | k + 1, x2, x3, x9, x10, x11, x17, x18, x19, x20, x74, x75, x76, x123 => if x123 = true then (some false) else (if x20 ≥ 0 then (chancerykeep1_AxisPlacesKeepOrder.j4 k x2 x3 x9 x10 x11 x20 x18 x19 x20 x74 x75 x76) else (chancerykeep1_AxisPlacesKeepOrder.j4 k x2 x3 x9 x10 x11 x17 x18 x19 x20 x74 x75 x76))
def chancerykeep1_AxisPlacesKeepOrder.j4 : Nat → Int → Int → List (S97) → Int → Int → Int → Int → Int → Int → List Int → Int → Int → Option (Bool)
  | 0, _, _, _, _, _, _, _, _, _, _, _, _ => none
  | k + 1, x2, x3, x9, x10, x11, x17, x18, x19, x20, x74, x75, x76 => if x19 ≥ x2 then (if x19 < x3 then (chancerykeep1_AxisPlacesKeepOrder.j5 k x2 x3 x9 x10 x11 x17 x18 x20 x74 x75 x76 (decide (x20 ≥ 0))) else (chancerykeep1_AxisPlacesKeepOrder.j5 k x2 x3 x9 x10 x11 x17 x18 x20 x74 x75 x76 false)) else (chancerykeep1_AxisPlacesKeepOrder.j5 k x2 x3 x9 x10 x11 x17 x18 x20 x74 x75 x76 false)
def chancerykeep1_AxisPlacesKeepOrder.j5 : Nat → Int → Int → List (S97) → Int → Int → Int → Int → Int → List Int → Int → Int → Bool → Option (Bool)
  | 0, _, _, _, _, _, _, _, _, _, _, _, _ => none
  | k + 1, x2, x3, x9, x10, x11, x17, x18, x20, x74, x75, x76, x138 => if x138 = true then (if x20 < x10 then (some false) else (if x20 ≥ x11 then (some false) else (chancerykeep1_AxisPlacesKeepOrder.l1 k x2 x3 x9 x10 x11 x17 (wrap64 (x18 + 1)) x74 x75 (wrap64 (x76 + 1))))) else (chancerykeep1_AxisPlacesKeepOrder.l1 k x2 x3 x9 x10 x11 x17 x18 x74 x75 (wrap64 (x76 + 1)))
end
def chancerykeep1_AxisPlacesKeepOrder.f (k : Nat) (a0 : Int) (l1 : List Int) (a2 : Int) (a3 : Int) : Option (Bool) := (chancerykeep1_axes.f k).bind fun t218 => (if t218 = true then ((chanceryref1_Within.f a0 1 20).bind fun t219 => ((chancerykeep1_fitting.f k t219 l1).bind fun t220 => ((chanceryref1_Within.f a2 0 t219).bind fun t223 => ((chanceryref1_Within.f a3 t223 t219).bind fun t224 => ((axis_Rest.f k t220 t223 t224).bind fun bt225 => (chancerykeep1_AxisPlacesKeepOrder.l0 k t219 t223 t224 t220 bt225.1 bt225.2.1 bt225.2.2 ([] : List Int) t219 0)))))) else (some false))
theorem chancerykeep1_AxisPlacesKeepOrder.mono_l : ∀ k, (∀ y0 y1 y2 y3 y4 y5 y6 y7 y8 y9, LeO (chancerykeep1_AxisPlacesKeepOrder.l0 k y0 y1 y2 y3 y4 y5 y6 y7 y8 y9) (chancerykeep1_AxisPlacesKeepOrder.l0 (k + 1) y0 y1 y2 y3 y4 y5 y6 y7 y8 y9)) ∧ (∀ y0 y1 y2 y3 y4 y5 y6, LeO (chancerykeep1_AxisPlacesKeepOrder.j1 k y0 y1 y2 y3 y4 y5 y6) (chancerykeep1_AxisPlacesKeepOrder.j1 (k + 1) y0 y1 y2 y3 y4 y5 y6)) ∧ (∀ y0 y1 y2 y3 y4 y5 y6 y7 y8 y9, LeO (chancerykeep1_AxisPlacesKeepOrder.l1 k y0 y1 y2 y3 y4 y5 y6 y7 y8 y9) (chancerykeep1_AxisPlacesKeepOrder.l1 (k + 1) y0 y1 y2 y3 y4 y5 y6 y7 y8 y9)) ∧ (∀ y0 y1 y2 y3 y4 y5 y6 y7 y8 y9 y10 y11 y12, LeO (chancerykeep1_AxisPlacesKeepOrder.j3 k y0 y1 y2 y3 y4 y5 y6 y7 y8 y9 y10 y11 y12) (chancerykeep1_AxisPlacesKeepOrder.j3 (k + 1) y0 y1 y2 y3 y4 y5 y6 y7 y8 y9 y10 y11 y12)) ∧ (∀ y0 y1 y2 y3 y4 y5 y6 y7 y8 y9 y10 y11, LeO (chancerykeep1_AxisPlacesKeepOrder.j4 k y0 y1 y2 y3 y4 y5 y6 y7 y8 y9 y10 y11) (chancerykeep1_AxisPlacesKeepOrder.j4 (k + 1) y0 y1 y2 y3 y4 y5 y6 y7 y8 y9 y10 y11)) ∧ (∀ y0 y1 y2 y3 y4 y5 y6 y7 y8 y9 y10 y11, LeO (chancerykeep1_AxisPlacesKeepOrder.j5 k y0 y1 y2 y3 y4 y5 y6 y7 y8 y9 y10 y11) (chancerykeep1_AxisPlacesKeepOrder.j5 (k + 1) y0 y1 y2 y3 y4 y5 y6 y7 y8 y9 y10 y11))
  | 0 => ⟨fun _ _ _ _ _ _ _ _ _ _ r h => by simp [chancerykeep1_AxisPlacesKeepOrder.l0] at h, fun _ _ _ _ _ _ _ r h => by simp [chancerykeep1_AxisPlacesKeepOrder.j1] at h, fun _ _ _ _ _ _ _ _ _ _ r h => by simp [chancerykeep1_AxisPlacesKeepOrder.l1] at h, fun _ _ _ _ _ _ _ _ _ _ _ _ _ r h => by simp [chancerykeep1_AxisPlacesKeepOrder.j3] at h, fun _ _ _ _ _ _ _ _ _ _ _ _ r h => by simp [chancerykeep1_AxisPlacesKeepOrder.j4] at h, fun _ _ _ _ _ _ _ _ _ _ _ _ r h => by simp [chancerykeep1_AxisPlacesKeepOrder.j5] at h⟩
  | k + 1 => by
    obtain ⟨ih0, ih1, ih2, ih3, ih4, ih5⟩ := chancerykeep1_AxisPlacesKeepOrder.mono_l k
    refine ⟨?_, ?_, ?_, ?_, ?_, ?_⟩
    · intro y0 y1 y2 y3 y4 y5 y6 y7 y8 y9
      unfold chancerykeep1_AxisPlacesKeepOrder.l0
      repeat' first
      | (with_reducible exact ih0 _ _ _ _ _ _ _ _ _ _)
      | (with_reducible exact ih1 _ _ _ _ _ _ _)
      | (with_reducible exact ih2 _ _ _ _ _ _ _ _ _ _)
      | (with_reducible exact ih3 _ _ _ _ _ _ _ _ _ _ _ _ _)
      | (with_reducible exact ih4 _ _ _ _ _ _ _ _ _ _ _ _)
      | (with_reducible exact ih5 _ _ _ _ _ _ _ _ _ _ _ _)
      | (with_reducible exact axis_Apply.mono _ _ _)
      | (with_reducible exact axis_Gap.mono _ _ _ _)
      | (with_reducible exact axis_Rest.mono _ _ _ _)
      | (with_reducible exact chancerykeep1_axes.mono _)
      | (with_reducible exact chancerykeep1_fitting.mono _ _ _)
      | (with_reducible exact LeO.refl _)
      | (with_reducible exact LeO.none _)
      | (with_reducible refine LeO.ite ?_ ?_)
      | (with_reducible refine LeO.bind ?_ (fun _ => ?_))
      | exact ih0 _ _ _ _ _ _ _ _ _ _
      | exact ih1 _ _ _ _ _ _ _
      | exact ih2 _ _ _ _ _ _ _ _ _ _
      | exact ih3 _ _ _ _ _ _ _ _ _ _ _ _ _
      | exact ih4 _ _ _ _ _ _ _ _ _ _ _ _
      | exact ih5 _ _ _ _ _ _ _ _ _ _ _ _
      | exact axis_Apply.mono _ _ _
      | exact axis_Gap.mono _ _ _ _
      | exact axis_Rest.mono _ _ _ _
      | exact chancerykeep1_axes.mono _
      | exact chancerykeep1_fitting.mono _ _ _
      | exact LeO.none _
      | refine LeO.ite ?_ ?_
      | refine LeO.bind ?_ (fun _ => ?_)
    · intro y0 y1 y2 y3 y4 y5 y6
      unfold chancerykeep1_AxisPlacesKeepOrder.j1
      repeat' first
      | (with_reducible exact ih0 _ _ _ _ _ _ _ _ _ _)
      | (with_reducible exact ih1 _ _ _ _ _ _ _)
      | (with_reducible exact ih2 _ _ _ _ _ _ _ _ _ _)
      | (with_reducible exact ih3 _ _ _ _ _ _ _ _ _ _ _ _ _)
      | (with_reducible exact ih4 _ _ _ _ _ _ _ _ _ _ _ _)
      | (with_reducible exact ih5 _ _ _ _ _ _ _ _ _ _ _ _)
      | (with_reducible exact axis_Apply.mono _ _ _)
      | (with_reducible exact axis_Gap.mono _ _ _ _)
      | (with_reducible exact axis_Rest.mono _ _ _ _)
      | (with_reducible exact chancerykeep1_axes.mono _)
      | (with_reducible exact chancerykeep1_fitting.mono _ _ _)
      | (with_reducible exact LeO.refl _)
      | (with_reducible exact LeO.none _)
      | (with_reducible refine LeO.ite ?_ ?_)
      | (with_reducible refine LeO.bind ?_ (fun _ => ?_))
      | exact ih0 _ _ _ _ _ _ _ _ _ _
      | exact ih1 _ _ _ _ _ _ _
      | exact ih2 _ _ _ _ _ _ _ _ _ _
      | exact ih3 _ _ _ _ _ _ _ _ _ _ _ _ _
      | exact ih4 _ _ _ _ _ _ _ _ _ _ _ _
      | exact ih5 _ _ _ _ _ _ _ _ _ _ _ _
      | exact axis_Apply.mono _ _ _
      | exact axis_Gap.mono _ _ _ _
      | exact axis_Rest.mono _ _ _ _
      | exact chancerykeep1_axes.mono _
      | exact chancerykeep1_fitting.mono _ _ _
      | exact LeO.none _
      | refine LeO.ite ?_ ?_
      | refine LeO.bind ?_ (fun _ => ?_)
    · intro y0 y1 y2 y3 y4 y5 y6 y7 y8 y9
      unfold chancerykeep1_AxisPlacesKeepOrder.l1
      repeat' first
      | (with_reducible exact ih0 _ _ _ _ _ _ _ _ _ _)
      | (with_reducible exact ih1 _ _ _ _ _ _ _)
      | (with_reducible exact ih2 _ _ _ _ _ _ _ _ _ _)
      | (with_reducible exact ih3 _ _ _ _ _ _ _ _ _ _ _ _ _)
      | (with_reducible exact ih4 _ _ _ _ _ _ _ _ _ _ _ _)
      | (with_reducible exact ih5 _ _ _ _ _ _ _ _ _ _ _ _)
      | (with_reducible exact axis_Apply.mono _ _ _)
      | (with_reducible exact axis_Gap.mono _ _ _ _)
      | (with_reducible exact axis_Rest.mono _ _ _ _)
      | (with_reducible exact chancerykeep1_axes.mono _)
      | (with_reducible exact chancerykeep1_fitting.mono _ _ _)
      | (with_reducible exact LeO.refl _)
      | (with_reducible exact LeO.none _)
      | (with_reducible refine LeO.ite ?_ ?_)
      | (with_reducible refine LeO.bind ?_ (fun _ => ?_))
      | exact ih0 _ _ _ _ _ _ _ _ _ _
      | exact ih1 _ _ _ _ _ _ _
      | exact ih2 _ _ _ _ _ _ _ _ _ _
      | exact ih3 _ _ _ _ _ _ _ _ _ _ _ _ _
      | exact ih4 _ _ _ _ _ _ _ _ _ _ _ _
      | exact ih5 _ _ _ _ _ _ _ _ _ _ _ _
      | exact axis_Apply.mono _ _ _
      | exact axis_Gap.mono _ _ _ _
      | exact axis_Rest.mono _ _ _ _
      | exact chancerykeep1_axes.mono _
      | exact chancerykeep1_fitting.mono _ _ _
      | exact LeO.none _
      | refine LeO.ite ?_ ?_
      | refine LeO.bind ?_ (fun _ => ?_)
    · intro y0 y1 y2 y3 y4 y5 y6 y7 y8 y9 y10 y11 y12
      unfold chancerykeep1_AxisPlacesKeepOrder.j3
      repeat' first
      | (with_reducible exact ih0 _ _ _ _ _ _ _ _ _ _)
      | (with_reducible exact ih1 _ _ _ _ _ _ _)
      | (with_reducible exact ih2 _ _ _ _ _ _ _ _ _ _)
      | (with_reducible exact ih3 _ _ _ _ _ _ _ _ _ _ _ _ _)
      | (with_reducible exact ih4 _ _ _ _ _ _ _ _ _ _ _ _)
      | (with_reducible exact ih5 _ _ _ _ _ _ _ _ _ _ _ _)
      | (with_reducible exact axis_Apply.mono _ _ _)
      | (with_reducible exact axis_Gap.mono _ _ _ _)
      | (with_reducible exact axis_Rest.mono _ _ _ _)
      | (with_reducible exact chancerykeep1_axes.mono _)
      | (with_reducible exact chancerykeep1_fitting.mono _ _ _)
      | (with_reducible exact LeO.refl _)
      | (with_reducible exact LeO.none _)
      | (with_reducible refine LeO.ite ?_ ?_)
      | (with_reducible refine LeO.bind ?_ (fun _ => ?_))
      | exact ih0 _ _ _ _ _ _ _ _ _ _
      | exact ih1 _ _ _ _ _ _ _
      | exact ih2 _ _ _ _ _ _ _ _ _ _
      | exact ih3 _ _ _ _ _ _ _ _ _ _ _ _ _
      | exact ih4 _ _ _ _ _ _ _ _ _ _ _ _
      | exact ih5 _ _ _ _ _ _ _ _ _ _ _ _
      | exact axis_Apply.mono _ _ _
      | exact axis_Gap.mono _ _ _ _
      | exact axis_Rest.mono _ _ _ _
      | exact chancerykeep1_axes.mono _
      | exact chancerykeep1_fitting.mono _ _ _
      | exact LeO.none _
      | refine LeO.ite ?_ ?_
      | refine LeO.bind ?_ (fun _ => ?_)
    · intro y0 y1 y2 y3 y4 y5 y6 y7 y8 y9 y10 y11
      unfold chancerykeep1_AxisPlacesKeepOrder.j4
      repeat' first
      | (with_reducible exact ih0 _ _ _ _ _ _ _ _ _ _)
      | (with_reducible exact ih1 _ _ _ _ _ _ _)
      | (with_reducible exact ih2 _ _ _ _ _ _ _ _ _ _)
      | (with_reducible exact ih3 _ _ _ _ _ _ _ _ _ _ _ _ _)
      | (with_reducible exact ih4 _ _ _ _ _ _ _ _ _ _ _ _)
      | (with_reducible exact ih5 _ _ _ _ _ _ _ _ _ _ _ _)
      | (with_reducible exact axis_Apply.mono _ _ _)
      | (with_reducible exact axis_Gap.mono _ _ _ _)
      | (with_reducible exact axis_Rest.mono _ _ _ _)
      | (with_reducible exact chancerykeep1_axes.mono _)
      | (with_reducible exact chancerykeep1_fitting.mono _ _ _)
      | (with_reducible exact LeO.refl _)
      | (with_reducible exact LeO.none _)
      | (with_reducible refine LeO.ite ?_ ?_)
      | (with_reducible refine LeO.bind ?_ (fun _ => ?_))
      | exact ih0 _ _ _ _ _ _ _ _ _ _
      | exact ih1 _ _ _ _ _ _ _
      | exact ih2 _ _ _ _ _ _ _ _ _ _
      | exact ih3 _ _ _ _ _ _ _ _ _ _ _ _ _
      | exact ih4 _ _ _ _ _ _ _ _ _ _ _ _
      | exact ih5 _ _ _ _ _ _ _ _ _ _ _ _
      | exact axis_Apply.mono _ _ _
      | exact axis_Gap.mono _ _ _ _
      | exact axis_Rest.mono _ _ _ _
      | exact chancerykeep1_axes.mono _
      | exact chancerykeep1_fitting.mono _ _ _
      | exact LeO.none _
      | refine LeO.ite ?_ ?_
      | refine LeO.bind ?_ (fun _ => ?_)
    · intro y0 y1 y2 y3 y4 y5 y6 y7 y8 y9 y10 y11
      unfold chancerykeep1_AxisPlacesKeepOrder.j5
      repeat' first
      | (with_reducible exact ih0 _ _ _ _ _ _ _ _ _ _)
      | (with_reducible exact ih1 _ _ _ _ _ _ _)
      | (with_reducible exact ih2 _ _ _ _ _ _ _ _ _ _)
      | (with_reducible exact ih3 _ _ _ _ _ _ _ _ _ _ _ _ _)
      | (with_reducible exact ih4 _ _ _ _ _ _ _ _ _ _ _ _)
      | (with_reducible exact ih5 _ _ _ _ _ _ _ _ _ _ _ _)
      | (with_reducible exact axis_Apply.mono _ _ _)
      | (with_reducible exact axis_Gap.mono _ _ _ _)
      | (with_reducible exact axis_Rest.mono _ _ _ _)
      | (with_reducible exact chancerykeep1_axes.mono _)
      | (with_reducible exact chancerykeep1_fitting.mono _ _ _)
      | (with_reducible exact LeO.refl _)
      | (with_reducible exact LeO.none _)
      | (with_reducible refine LeO.ite ?_ ?_)
      | (with_reducible refine LeO.bind ?_ (fun _ => ?_))
      | exact ih0 _ _ _ _ _ _ _ _ _ _
      | exact ih1 _ _ _ _ _ _ _
      | exact ih2 _ _ _ _ _ _ _ _ _ _
      | exact ih3 _ _ _ _ _ _ _ _ _ _ _ _ _
      | exact ih4 _ _ _ _ _ _ _ _ _ _ _ _
      | exact ih5 _ _ _ _ _ _ _ _ _ _ _ _
      | exact axis_Apply.mono _ _ _
      | exact axis_Gap.mono _ _ _ _
      | exact axis_Rest.mono _ _ _ _
      | exact chancerykeep1_axes.mono _
      | exact chancerykeep1_fitting.mono _ _ _
      | exact LeO.none _
      | refine LeO.ite ?_ ?_
      | refine LeO.bind ?_ (fun _ => ?_)
theorem chancerykeep1_AxisPlacesKeepOrder.mono : ∀ a0 a1 a2 a3 k, LeO (chancerykeep1_AxisPlacesKeepOrder.f k a0 a1 a2 a3) (chancerykeep1_AxisPlacesKeepOrder.f (k + 1) a0 a1 a2 a3) := by
  intro a0 a1 a2 a3 k
  obtain ⟨ih0, ih1, ih2, ih3, ih4, ih5⟩ := chancerykeep1_AxisPlacesKeepOrder.mono_l k
  unfold chancerykeep1_AxisPlacesKeepOrder.f
  repeat' first
      | (with_reducible exact ih0 _ _ _ _ _ _ _ _ _ _)
      | (with_reducible exact ih1 _ _ _ _ _ _ _)
      | (with_reducible exact ih2 _ _ _ _ _ _ _ _ _ _)
      | (with_reducible exact ih3 _ _ _ _ _ _ _ _ _ _ _ _ _)
      | (with_reducible exact ih4 _ _ _ _ _ _ _ _ _ _ _ _)
      | (with_reducible exact ih5 _ _ _ _ _ _ _ _ _ _ _ _)
      | (with_reducible exact axis_Apply.mono _ _ _)
      | (with_reducible exact axis_Gap.mono _ _ _ _)
      | (with_reducible exact axis_Rest.mono _ _ _ _)
      | (with_reducible exact chancerykeep1_axes.mono _)
      | (with_reducible exact chancerykeep1_fitting.mono _ _ _)
      | (with_reducible exact LeO.refl _)
      | (with_reducible exact LeO.none _)
      | (with_reducible refine LeO.ite ?_ ?_)
      | (with_reducible refine LeO.bind ?_ (fun _ => ?_))
      | exact ih0 _ _ _ _ _ _ _ _ _ _
      | exact ih1 _ _ _ _ _ _ _
      | exact ih2 _ _ _ _ _ _ _ _ _ _
      | exact ih3 _ _ _ _ _ _ _ _ _ _ _ _ _
      | exact ih4 _ _ _ _ _ _ _ _ _ _ _ _
      | exact ih5 _ _ _ _ _ _ _ _ _ _ _ _
      | exact axis_Apply.mono _ _ _
      | exact axis_Gap.mono _ _ _ _
      | exact axis_Rest.mono _ _ _ _
      | exact chancerykeep1_axes.mono _
      | exact chancerykeep1_fitting.mono _ _ _
      | exact LeO.none _
      | refine LeO.ite ?_ ?_
      | refine LeO.bind ?_ (fun _ => ?_)
set_option maxHeartbeats 8000000 in
set_option maxRecDepth 100000 in
theorem chancerykeep1_AxisPlacesKeepOrder.calls (k : Nat) (a0 : Int) (A1 : Option Addr) (c1 : Nat) (l1 : List Int) (a2 : Int) (a3 : Int) (r : Bool) (w : World) (hr1 : Kd.C (Kd.int .i64) w A1 l1.length l1) (hc1 : l1.length ≤ c1) (h : chancerykeep1_AxisPlacesKeepOrder.f k a0 l1 a2 a3 = some r) :
    Calls Try.prog 9 #[.int .i64 a0, .slice A1 l1.length c1, .int .i64 a2, .int .i64 a3] w fun e w' => e = .returned (.bool r) ∧ Below w.heap.size w w' := by
  have HR1 := Aside0.mk hr1
  have HC1 := Aside0.mk hc1
  clear hr1 hc1
  have HB := Aside0.mk (Below.refl w.heap.size w)
  have H : ((chancerykeep1_axes.f k).bind fun t218 => (if t218 = true then ((chanceryref1_Within.f a0 1 20).bind fun t219 => ((chancerykeep1_fitting.f k t219 l1).bind fun t220 => ((chanceryref1_Within.f a2 0 t219).bind fun t223 => ((chanceryref1_Within.f a3 t223 t219).bind fun t224 => ((axis_Rest.f k t220 t223 t224).bind fun bt225 => (chancerykeep1_AxisPlacesKeepOrder.l0 k t219 t223 t224 t220 bt225.1 bt225.2.1 bt225.2.2 ([] : List Int) t219 0)))))) else (some false))) = some r := h
  clear h
  replace H := Option.bind_eq_some_iff.mp H
  obtain ⟨t218, A50, H⟩ := H
  replace H : (if t218 = true then ((chanceryref1_Within.f a0 1 20).bind fun t219 => ((chancerykeep1_fitting.f k t219 l1).bind fun t220 => ((chanceryref1_Within.f a2 0 t219).bind fun t223 => ((chanceryref1_Within.f a3 t223 t219).bind fun t224 => ((axis_Rest.f k t220 t223 t224).bind fun bt225 => (chancerykeep1_AxisPlacesKeepOrder.l0 k t219 t223 t224 t220 bt225.1 bt225.2.1 bt225.2.2 ([] : List Int) t219 0)))))) else (some false)) = some r := H
  have A5 := Aside0.mk A50
  clear A50
  by_cases c6 : t218 = true
  · subst c6
    have H1 : ((chanceryref1_Within.f a0 1 20).bind fun t219 => ((chancerykeep1_fitting.f k t219 l1).bind fun t220 => ((chanceryref1_Within.f a2 0 t219).bind fun t223 => ((chanceryref1_Within.f a3 t223 t219).bind fun t224 => ((axis_Rest.f k t220 t223 t224).bind fun bt225 => (chancerykeep1_AxisPlacesKeepOrder.l0 k t219 t223 t224 t220 bt225.1 bt225.2.1 bt225.2.2 ([] : List Int) t219 0)))))) = some r := by rw [if_pos rfl] at H; exact H
    clear H
    have H := H1
    clear H1
    replace H := Option.bind_eq_some_iff.mp H
    obtain ⟨t219, A70, H⟩ := H
    replace H : ((chancerykeep1_fitting.f k t219 l1).bind fun t220 => ((chanceryref1_Within.f a2 0 t219).bind fun t223 => ((chanceryref1_Within.f a3 t223 t219).bind fun t224 => ((axis_Rest.f k t220 t223 t224).bind fun bt225 => (chancerykeep1_AxisPlacesKeepOrder.l0 k t219 t223 t224 t220 bt225.1 bt225.2.1 bt225.2.2 ([] : List Int) t219 0))))) = some r := H
    have A7 := Aside0.mk A70
    clear A70
    replace H := Option.bind_eq_some_iff.mp H
    obtain ⟨t220, A80, H⟩ := H
    replace H : ((chanceryref1_Within.f a2 0 t219).bind fun t223 => ((chanceryref1_Within.f a3 t223 t219).bind fun t224 => ((axis_Rest.f k t220 t223 t224).bind fun bt225 => (chancerykeep1_AxisPlacesKeepOrder.l0 k t219 t223 t224 t220 bt225.1 bt225.2.1 bt225.2.2 ([] : List Int) t219 0)))) = some r := H
    have A8 := Aside0.mk A80
    clear A80
    replace H := Option.bind_eq_some_iff.mp H
    obtain ⟨t223, A90, H⟩ := H
    replace H : ((chanceryref1_Within.f a3 t223 t219).bind fun t224 => ((axis_Rest.f k t220 t223 t224).bind fun bt225 => (chancerykeep1_AxisPlacesKeepOrder.l0 k t219 t223 t224 t220 bt225.1 bt225.2.1 bt225.2.2 ([] : List Int) t219 0))) = some r := H
    have A9 := Aside0.mk A90
    clear A90
    replace H := Option.bind_eq_some_iff.mp H
    obtain ⟨t224, A100, H⟩ := H
    replace H : ((axis_Rest.f k t220 t223 t224).bind fun bt225 => (chancerykeep1_AxisPlacesKeepOrder.l0 k t219 t223 t224 t220 bt225.1 bt225.2.1 bt225.2.2 ([] : List Int) t219 0)) = some r := H
    have A10 := Aside0.mk A100
    clear A100
    replace H := Option.bind_eq_some_iff.mp H
    obtain ⟨⟨t225, t226, t227⟩, A110, H⟩ := H
    replace H : (chancerykeep1_AxisPlacesKeepOrder.l0 k t219 t223 t224 t220 t225 t226 t227 ([] : List Int) t219 0) = some r := H
    have A11 := Aside0.mk A110
    clear A110
    have H' := Aside0.mk H
    clear H
    go_enter Try.func9, Try.ntmps9
    go_wp2_with (first | ((with_reducible refine gate_callee (f := 30) rfl ?_); refine goesL_ (some 25) rfl rfl Try.func30 (by kernel_rfl) rfl #[] rfl (by (try simp only [List.map_toArray, List.map_cons, List.map_nil]); first | done | rfl | (simp only [List.length_drop, List.length_take]; rfl)) ?_; (with_reducible refine (chancerykeep1_axes.calls k  true _ A5.out).mono ?_); rintro e w12 ⟨rfl, hb⟩; refine ⟨_, rfl, ?_⟩; have n0_ := Aside0.mk (below_step (by repeat (first | (with_reducible first | exact HB.out | apply below_alloc | apply pw_below_drewN | apply below_drew1) | exact HB.out)) hb); clear HB; have HB := n0_; clear n0_; (try clear hb); (try clear hb2); (try clear hk); (try clear hi)) | ((with_reducible refine gate_callee (f := 32) rfl ?_); refine goesL_ (some 28) rfl rfl Try.func32 (by kernel_rfl) rfl #[.int .i64 a0, .int .i64 1, .int .i64 20] rfl (by (try simp only [List.map_toArray, List.map_cons, List.map_nil]); first | done | rfl | (simp only [List.length_drop, List.length_take]; rfl)) ?_; (with_reducible refine (chanceryref1_Within.calls a0 1 20 t219 _ A7.out).mono ?_); rintro e w' ⟨rfl, ⟨nd, rfl⟩⟩; refine ⟨_, rfl, ?_⟩) | ((with_reducible refine gate_callee (f := 31) rfl ?_); refine goesL_ (some 31) rfl rfl Try.func31 (by kernel_rfl) rfl #[.int .i64 t219, .slice A1 l1.length c1] rfl (by (try simp only [List.map_toArray, List.map_cons, List.map_nil]); first | done | rfl | (simp only [List.length_drop, List.length_take]; rfl)) ?_; (with_reducible refine (chancerykeep1_fitting.calls k t219 _ _ l1 t220 _ ?side1 ?side2 A8.out).mono ?_); (case side1 => repeat (first | exact (Kd.C_below HR1.out (by repeat (first | (with_reducible first | exact HB.out | apply below_alloc | apply pw_below_drewN | apply below_drew1) | exact HB.out))) | (with_reducible refine Kd.C_alloc ?_ _) | (with_reducible refine Kd.C_drewN ?_ _) | (with_reducible refine Kd.C_drew ?_))); (case side2 => exact HC1.out); rintro e w13 ⟨v221, rfl, ho0, hb⟩; refine ⟨_, rfl, ?_⟩; have n0_ := Aside0.mk (Kd.R_lower ho0 (below_size (by repeat (first | (with_reducible first | exact HB.out | apply below_alloc | apply pw_below_drewN | apply below_drew1) | exact HB.out)))); have n1_ := Aside0.mk (below_step (by repeat (first | (with_reducible first | exact HB.out | apply below_alloc | apply pw_below_drewN | apply below_drew1) | exact HB.out)) hb); clear HB; have HO222 := n0_; have HB := n1_; clear n0_ n1_; (try clear hb); (try clear hb2); (try clear hk); (try clear hi); (try clear ho0)) | ((with_reducible refine gate_callee (f := 32) rfl ?_); refine goesL_ (some 34) rfl rfl Try.func32 (by kernel_rfl) rfl #[.int .i64 a2, .int .i64 0, .int .i64 t219] rfl (by (try simp only [List.map_toArray, List.map_cons, List.map_nil]); first | done | rfl | (simp only [List.length_drop, List.length_take]; rfl)) ?_; (with_reducible refine (chanceryref1_Within.calls a2 0 t219 t223 _ A9.out).mono ?_); rintro e w' ⟨rfl, ⟨nd, rfl⟩⟩; refine ⟨_, rfl, ?_⟩) | ((with_reducible refine gate_callee (f := 32) rfl ?_); refine goesL_ (some 38) rfl rfl Try.func32 (by kernel_rfl) rfl #[.int .i64 a3, .int .i64 t223, .int .i64 t219] rfl (by (try simp only [List.map_toArray, List.map_cons, List.map_nil]); first | done | rfl | (simp only [List.length_drop, List.length_take]; rfl)) ?_; (with_reducible refine (chanceryref1_Within.calls a3 t223 t219 t224 _ A10.out).mono ?_); rintro e w' ⟨rfl, ⟨nd, rfl⟩⟩; refine ⟨_, rfl, ?_⟩; obtain ⟨Ao14, co14, eo14⟩ := Kd.R_slice HO222.out; subst eo14) | ((with_reducible refine gate_callee (f := 38) rfl ?_); refine goesL_ (some 43) rfl rfl Try.func38 (by kernel_rfl) rfl #[.slice Ao14 t220.length co14, .int .i64 t223, .int .i64 t224] rfl (by (try simp only [List.map_toArray, List.map_cons, List.map_nil]); first | done | rfl | (simp only [List.length_drop, List.length_take]; rfl)) ?_; (with_reducible refine (axis_Rest.calls k _ _ t220 t223 t224 t225 t226 t227 _ ?side1 ?side2 A11.out).mono ?_); (case side1 => repeat (first | exact (Kd.R_reads' HO222.out).2.2 | (with_reducible refine Kd.C_alloc ?_ _) | (with_reducible refine Kd.C_drewN ?_ _) | (with_reducible refine Kd.C_drew ?_))); (case side2 => exact (Kd.R_reads' HO222.out).2.1); rintro e w15 ⟨rfl, hb⟩; refine ⟨_, rfl, ?_⟩; have n0_ := Aside0.mk (Kd.R_below (by (with_reducible repeat (first | apply Kd.R_alloc | apply Kd.R_drewN | apply Kd.R_drew)); exact HO222.out) hb); have n1_ := Aside0.mk (below_step (by repeat (first | (with_reducible first | exact HB.out | apply below_alloc | apply pw_below_drewN | apply below_drew1) | exact HB.out)) hb); clear HO222; clear HB; have HO222 := n0_; have HB := n1_; clear n0_ n1_; (try clear hb); (try clear hb2); (try clear hk); (try clear hi)))
    go_loopg [13, 48] k (fun kq v13 v48 w' => ∃ (x13_1 : List Int) (x48_1 : Int), v48 = .int .i64 x48_1 ∧ Aside0 (chancerykeep1_AxisPlacesKeepOrder.l0 kq t219 t223 t224 t220 t225 t226 t227 x13_1 t219 x48_1 = some r) ∧ Aside0 (kq ≤ k) ∧ Aside0 (Kd.R k97 97 w' w.heap.size (fun _ => True) (.slice Ao14 t220.length co14) t220) ∧ Aside0 (Kd.R (Kd.int .i64) 3 w' w.heap.size (fun _ => True) v13 x13_1) ∧ Aside0 (Below w.heap.size w w'))
    case atStart => exact ⟨(([] : List Int)), (0), (by first | rfl | (simp; done) | (simp [*]; done)), H', ⟨Nat.le_refl _⟩, ⟨by (with_reducible repeat (first | apply Kd.R_alloc | apply Kd.R_drewN | apply Kd.R_drew)); exact HO222.out⟩, ⟨by first | exact Kd.R_nil _ _ _ _ _ | exact Kd.N_nil _ _ _ _ _ | exact Kd.V_nil _ _ _ _ _ | exact Kd.Q_nil _ _ _ _ _ | exact Kd.S_nil _ _ _ _ _⟩, ⟨by repeat (first | (with_reducible first | exact HB.out | apply below_alloc | apply pw_below_drewN | apply below_drew1) | exact HB.out)⟩⟩
    case round =>
      clear H'
      try clear c1
      try clear p1
      try clear p2
      try clear c3
      try clear c6
      try clear c9
      obtain ⟨x13_1, x48_1, rfl, HA, HK1, HO_9, HO_13, HB⟩ := hrel
      cases gk with
      | zero => exact absurd HA.out (by simp [chancerykeep1_AxisPlacesKeepOrder.l0])
      | succ k1 =>
        have H := HA.out
        clear HA
        simp only [chancerykeep1_AxisPlacesKeepOrder.l0] at H
        by_cases c16 : x48_1 < t219
        · rw [if_pos c16] at H
          have c16b0 : decide (x48_1 < t219) = true := decide_eq_true c16
          clear c16
          by_cases c17 : x13_1.length < 17592186044416
          · rw [if_pos c17] at H
            have LMc17 := Aside0.mk c17
            clear c17
            obtain ⟨y228, hy228⟩ : ∃ y_ : List Int, y_ = (x13_1 ++ [x48_1]) := ⟨_, rfl⟩
            replace H : (chancerykeep1_AxisPlacesKeepOrder.l0 k1 t219 t223 t224 t220 t225 t226 t227 y228 t219 (wrap64 (x48_1 + 1))) = some r := by first | (rw [hy228]; with_reducible exact H) | (have H2_ := (Option.bind_some _ _).symm.trans H; rw [hy228]; with_reducible exact H2_) | (have H2_ := (Option.bind_some _ _).symm.trans H; with_reducible exact H2_) | with_reducible exact H | (rw [hy228]; exact H) | exact H
            have Ny228 := Aside0.mk hy228
            clear hy228
            have H' := Aside0.mk H
            clear H
            go_wp2_with (first | ((with_reducible refine gate_builtin (b := .append) (xs := #[.tmp 51, .tmp 53]) rfl ?_); (try (refine gate_guard (by rfl) ?_; dsimp only)); at_builtin; refine Kd.R_append (Kd.int .i64) (w0 := w) w.heap.size rfl (.tmp 51) (.tmp 53) 43 3 (.int .i64 0) 8 rfl Try.underlying43 info3 rfl (by decide) (by omega) u13 x13_1 x48_1 [.int .i64 x48_1] (fun _ => True) (fun _ => False) rfl rfl ?aP (fun _ hk => hk.elim) ?aF ?aO ?aB ?aS ?aL ?_; (case aP => exact rfl); (case aB => exact (by repeat (first | (with_reducible first | exact HB.out | apply below_alloc | apply pw_below_drewN | apply below_drew1) | exact HB.out))); (case aF => exact (fun _ _ => trivial)); (case aO => exact (by (with_reducible repeat (first | apply Kd.R_alloc | apply Kd.R_drewN | apply Kd.R_drew)); exact HO_13.out)); (case aS => exact (below_size (by repeat (first | (with_reducible first | exact HB.out | apply below_alloc | apply pw_below_drewN | apply below_drew1) | exact HB.out)))); (case aL => have := LMc17.out; omega); intro v229 w18 ho hb hg hat; rw [← Ny228.out] at ho; have n0_ := Aside0.mk (Kd.R_over' (by (with_reducible repeat (first | apply Kd.R_alloc | apply Kd.R_drewN | apply Kd.R_drew)); exact HO_9.out) (Kd.R_typed (by (with_reducible repeat (first | apply Kd.R_alloc | apply Kd.R_drewN | apply Kd.R_drew)); exact HO_13.out)) (by decide) hg); have n1_ := Aside0.mk (hb); have n2_ := Aside0.mk (ho); clear HO_9; clear HB; clear HO_13; have HO_9 := n0_; have HB := n1_; have HO230 := n2_; clear n0_ n1_ n2_; clear ho hb hg hat))
            go_roundg k1
            case measure => have := HK1.out; omega
            case rel => exact ⟨(y228), (wrap64 (x48_1 + 1)), (by first | rfl | (simp; done) | (simp [*]; done)), H', ⟨by have := HK1.out; omega⟩, ⟨by (with_reducible repeat (first | apply Kd.R_alloc | apply Kd.R_drewN | apply Kd.R_drew)); exact HO_9.out⟩, ⟨by (with_reducible repeat (first | apply Kd.R_alloc | apply Kd.R_drewN | apply Kd.R_drew)); exact HO230.out⟩, ⟨by repeat (first | (with_reducible first | exact HB.out | apply below_alloc | apply pw_below_drewN | apply below_drew1) | exact HB.out)⟩⟩
          · rw [if_neg c17] at H
            exact absurd H (by simp)
        · rw [if_neg c16] at H
          have c16b0 : decide (x48_1 < t219) = false := decide_eq_false c16
          clear c16
          replace H := Option.bind_eq_some_iff.mp H
          obtain ⟨⟨t231, t232⟩, A190, H⟩ := H
          replace H : (if t227 = 0 then (if t232 = 0 then (chancerykeep1_AxisPlacesKeepOrder.j1 k1 t223 t224 t220 t225 t226 t231 ((t231.length : Int) != t219)) else (chancerykeep1_AxisPlacesKeepOrder.j1 k1 t223 t224 t220 t225 t226 t231 true)) else (chancerykeep1_AxisPlacesKeepOrder.j1 k1 t223 t224 t220 t225 t226 t231 true)) = some r := H
          have A19 := Aside0.mk A190
          clear A190
          have HC20 := Aside0.mk H
          clear H
          obtain ⟨Ao21, co21, eo21⟩ := Kd.R_slice HO_13.out
          subst eo21
          go_upto_region 15 with (first | ((with_reducible refine gate_callee (f := 39) rfl ?_); refine goesL_ (some 59) rfl rfl Try.func39 (by kernel_rfl) rfl #[.slice Ao14 t220.length co14, .slice Ao21 x13_1.length co21] rfl (by (try simp only [List.map_toArray, List.map_cons, List.map_nil]); first | done | rfl | (simp only [List.length_drop, List.length_take]; rfl)) ?_; (with_reducible refine (axis_Apply.calls k1 _ _ t220 _ _ x13_1 t231 t232 _ ?side1 ?side2 ?side3 ?side4 A19.out).mono ?_); (case side1 => repeat (first | exact (Kd.R_reads' HO_9.out).2.2 | (with_reducible refine Kd.C_alloc ?_ _) | (with_reducible refine Kd.C_drewN ?_ _) | (with_reducible refine Kd.C_drew ?_))); (case side2 => exact (Kd.R_reads' HO_9.out).2.1); (case side3 => repeat (first | exact (Kd.R_reads' HO_13.out).2.2 | (with_reducible refine Kd.C_alloc ?_ _) | (with_reducible refine Kd.C_drewN ?_ _) | (with_reducible refine Kd.C_drew ?_))); (case side4 => exact (Kd.R_reads' HO_13.out).2.1); rintro e w22 ⟨v233, rfl, ho0, hb⟩; refine ⟨_, rfl, ?_⟩; have n0_ := Aside0.mk (Kd.R_below (by (with_reducible repeat (first | apply Kd.R_alloc | apply Kd.R_drewN | apply Kd.R_drew)); exact HO_9.out) hb); have n1_ := Aside0.mk (Kd.R_elder' (by (with_reducible repeat (first | apply Kd.R_alloc | apply Kd.R_drewN | apply Kd.R_drew)); exact HO_13.out) (Kd.R_base ho0) hb); have n2_ := Aside0.mk (Kd.R_lower (Kd.R_new' ho0 (Kd.R_lt (by (with_reducible repeat (first | apply Kd.R_alloc | apply Kd.R_drewN | apply Kd.R_drew)); exact HO_13.out))) (below_size (by repeat (first | (with_reducible first | exact HB.out | apply below_alloc | apply pw_below_drewN | apply below_drew1) | exact HB.out)))); have n3_ := Aside0.mk (below_step (by repeat (first | (with_reducible first | exact HB.out | apply below_alloc | apply pw_below_drewN | apply below_drew1) | exact HB.out)) hb); clear HO_9; clear HO_13; clear HB; have HO_9 := n0_; have HO_13 := n1_; have HO234 := n2_; have HB := n3_; clear n0_ n1_ n2_ n3_; (try clear hb); (try clear hb2); (try clear hk); (try clear hi); (try clear ho0)))
          (try simp only [Act.put, List.setIfInBounds_toArray, List.set_cons_zero, List.set_cons_succ])
          go_cut [73] (fun v73 wc => ∃ (kq : Nat) (x73_19 : Bool), v73 = .bool x73_19 ∧ Aside0 (chancerykeep1_AxisPlacesKeepOrder.j1 kq t223 t224 t220 t225 t226 t231 x73_19 = some r) ∧ Aside0 (kq ≤ k1) ∧ Aside0 (Kd.R k97 97 wc w.heap.size (fun _ => True) (.slice Ao14 t220.length co14) t220) ∧ Aside0 (Kd.R (Kd.int .i64) 3 wc w.heap.size (fun _ => True) v233 t231) ∧ Aside0 (Below w.heap.size w wc))
          case first =>
            have H := HC20.out
            clear HC20
            by_cases c23 : t227 = 0
            · rw [if_pos c23] at H
              have c23b0 : (t227 == 0) = true := beq_iff_eq.mpr c23
              have c23b1 : (t227 != 0) = false := bne_eq_false_iff_eq.mpr c23
              clear c23
              (first | rw [c23b0] | (simp only [i64_w, i32_w]; rw [c23b0]) | skip)
              by_cases c24 : t232 = 0
              · rw [if_pos c24] at H
                have c24b0 : (t232 == 0) = true := beq_iff_eq.mpr c24
                have c24b1 : (t232 != 0) = false := bne_eq_false_iff_eq.mpr c24
                clear c24
                have H' := Aside0.mk H
                clear H
                obtain ⟨Ao25, co25, eo25⟩ := Kd.R_slice HO234.out
                subst eo25
                go_wp2
                go_meet
                case rel => exact ⟨_, (((t231.length : Int) != t219)), (by first | rfl | (simp; done) | (simp [*]; done)), H', ⟨by have := HK1.out; first | omega | exact Nat.le_refl _⟩, ⟨by (with_reducible repeat (first | apply Kd.R_alloc | apply Kd.R_drewN | apply Kd.R_drew)); exact HO_9.out⟩, ⟨by (with_reducible repeat (first | apply Kd.R_alloc | apply Kd.R_drewN | apply Kd.R_drew)); exact Kd.R_mono HO234.out (fun _ hk => trivial)⟩, ⟨by repeat (first | (with_reducible first | exact HB.out | apply below_alloc | apply pw_below_drewN | apply below_drew1) | exact HB.out)⟩⟩
              · rw [if_neg c24] at H
                have c24b0 : (t232 == 0) = false := beq_eq_false_iff_ne.mpr c24
                have c24b1 : (t232 != 0) = true := bne_iff_ne.mpr c24
                have H' := Aside0.mk H
                clear H
                go_wp2
                go_meet
                case rel => exact ⟨_, (true), (by first | rfl | (simp; done) | (simp [*]; done)), H', ⟨by have := HK1.out; first | omega | exact Nat.le_refl _⟩, ⟨by (with_reducible repeat (first | apply Kd.R_alloc | apply Kd.R_drewN | apply Kd.R_drew)); exact HO_9.out⟩, ⟨by (with_reducible repeat (first | apply Kd.R_alloc | apply Kd.R_drewN | apply Kd.R_drew)); exact Kd.R_mono HO234.out (fun _ hk => trivial)⟩, ⟨by repeat (first | (with_reducible first | exact HB.out | apply below_alloc | apply pw_below_drewN | apply below_drew1) | exact HB.out)⟩⟩
            · rw [if_neg c23] at H
              have c23b0 : (t227 == 0) = false := beq_eq_false_iff_ne.mpr c23
              have c23b1 : (t227 != 0) = true := bne_iff_ne.mpr c23
              (first | rw [c23b0] | (simp only [i64_w, i32_w]; rw [c23b0]) | skip)
              have H' := Aside0.mk H
              clear H
              go_wp2
              go_meet
              case rel => exact ⟨_, (true), (by first | rfl | (simp; done) | (simp [*]; done)), H', ⟨by have := HK1.out; first | omega | exact Nat.le_refl _⟩, ⟨by (with_reducible repeat (first | apply Kd.R_alloc | apply Kd.R_drewN | apply Kd.R_drew)); exact HO_9.out⟩, ⟨by (with_reducible repeat (first | apply Kd.R_alloc | apply Kd.R_drewN | apply Kd.R_drew)); exact Kd.R_mono HO234.out (fun _ hk => trivial)⟩, ⟨by repeat (first | (with_reducible first | exact HB.out | apply below_alloc | apply pw_below_drewN | apply below_drew1) | exact HB.out)⟩⟩
          case rest =>
            clear HC20
            try clear c1
            try clear p1
            try clear c2
            try clear p2
            try clear c3
            try clear c6
            try clear p6
            try clear c9
            try clear c16
            try clear c16b0
            try clear c17
            try clear c23
            try clear c23b0
            try clear c23b1
            try clear c24
            try clear c24b0
            try clear c24b1
            try clear p1
            try clear p2
            obtain ⟨kq, x73_19, rfl, HA, HJ19, HO_9, HO_15, HB⟩ := hcut
            cases kq with
            | zero => exact absurd HA.out (by simp [chancerykeep1_AxisPlacesKeepOrder.j1])
            | succ kj19 =>
              have H := HA.out
              clear HA
              simp only [chancerykeep1_AxisPlacesKeepOrder.j1] at H
              by_cases c26 : x73_19 = true
              · subst c26
                have H1 : (some false) = some r := by rw [if_pos rfl] at H; exact H
                clear H
                have H := H1
                clear H1
                obtain rfl := Option.some.inj H
                go_wp2
                go_ret
                exact ⟨by first | rfl | (simp [errW_none, errW_some] <;> rfl) | (simp [*, errW_none, errW_some] <;> rfl), by repeat (first | (with_reducible first | exact HB.out | apply below_alloc | apply pw_below_drewN | apply below_drew1) | exact HB.out)⟩
              · replace c26 := Bool.eq_false_iff.mpr c26
                subst c26
                have H1 : (chancerykeep1_AxisPlacesKeepOrder.l1 kj19 t223 t224 t220 t225 t226 (-1) 0 t231 (t231.length : Int) 0) = some r := by rw [if_neg (show ¬ (false = true) by decide)] at H; exact H
                clear H
                have H := H1
                clear H1
                have H' := Aside0.mk H
                clear H
                obtain ⟨Ao27, co27, eo27⟩ := Kd.R_slice HO_15.out
                subst eo27
                go_wp2
                go_loopg [17, 18, 76] kj19 (fun kq v17 v18 v76 w' => ∃ (x17_3 : Int) (x18_3 : Int) (x76_3 : Int), v17 = .int .i64 x17_3 ∧ v18 = .int .i64 x18_3 ∧ v76 = .int .i64 x76_3 ∧ Aside0 (chancerykeep1_AxisPlacesKeepOrder.l1 kq t223 t224 t220 t225 t226 x17_3 x18_3 t231 (t231.length : Int) x76_3 = some r) ∧ Aside0 (kq ≤ kj19) ∧ Aside0 (Kd.R k97 97 w' w.heap.size (fun _ => True) (.slice Ao14 t220.length co14) t220) ∧ Aside0 (Kd.R (Kd.int .i64) 3 w' w.heap.size (fun _ => True) (.slice Ao27 t231.length co27) t231) ∧ Aside0 (Below w.heap.size w w'))
                case atStart => exact ⟨((-1)), (0), (0), (by first | rfl | (simp; done) | (simp [*]; done)), (by first | rfl | (simp; done) | (simp [*]; done)), (by first | rfl | (simp; done) | (simp [*]; done)), H', ⟨Nat.le_refl _⟩, ⟨by (with_reducible repeat (first | apply Kd.R_alloc | apply Kd.R_drewN | apply Kd.R_drew)); exact HO_9.out⟩, ⟨by (with_reducible repeat (first | apply Kd.R_alloc | apply Kd.R_drewN | apply Kd.R_drew)); exact HO_15.out⟩, ⟨by repeat (first | (with_reducible first | exact HB.out | apply below_alloc | apply pw_below_drewN | apply below_drew1) | exact HB.out)⟩⟩
                case round =>
                  clear H'
                  try clear c1
                  try clear p1
                  try clear c2
                  try clear p2
                  try clear c3
                  try clear c6
                  try clear p6
                  try clear c9
                  try clear c16
                  try clear c16b0
                  try clear c17
                  try clear c23
                  try clear c23b0
                  try clear c23b1
                  try clear c24
                  try clear c24b0
                  try clear c24b1
                  try clear c26
                  try clear p1
                  try clear p2
                  try clear p6
                  obtain ⟨x17_3, x18_3, x76_3, rfl, rfl, rfl, HA, HK3, HO_9, HO_74, HB⟩ := hrel
                  cases gk with
                  | zero => exact absurd HA.out (by simp [chancerykeep1_AxisPlacesKeepOrder.l1])
                  | succ k3 =>
                    have H := HA.out
                    clear HA
                    simp only [chancerykeep1_AxisPlacesKeepOrder.l1] at H
                    by_cases c28 : x76_3 < (t231.length : Int)
                    · rw [if_pos c28] at H
                      have c28b0 : decide (x76_3 < (t231.length : Int)) = true := decide_eq_true c28
                      clear c28
                      by_cases c29 : 0 ≤ x76_3
                      · rw [if_pos c29] at H
                        have c29b0 : decide (0 ≤ x76_3) = true := decide_eq_true c29
                        clear c29
                        by_cases c30 : x76_3 < (t231.length : Int)
                        · rw [if_pos c30] at H
                          have c30b0 : decide (x76_3 < (t231.length : Int)) = true := decide_eq_true c30
                          clear c30
                          replace H := Option.bind_eq_some_iff.mp H
                          obtain ⟨⟨t236, t237⟩, A310, H⟩ := H
                          replace H : ((axis_Gap.f k3 t220 x76_3 true).bind fun bt238 => (if t237 = 0 then (if bt238.2 = 0 then (if t236 > bt238.1 then (chancerykeep1_AxisPlacesKeepOrder.j3 k3 t223 t224 t220 t225 t226 x17_3 x18_3 x76_3 (rd t231 x76_3) t231 (t231.length : Int) x76_3 true) else (if (rd t231 x76_3) ≥ 0 then (if (rd t231 x76_3) ≤ x17_3 then (chancerykeep1_AxisPlacesKeepOrder.j3 k3 t223 t224 t220 t225 t226 x17_3 x18_3 x76_3 (rd t231 x76_3) t231 (t231.length : Int) x76_3 true) else (if bt238.1 > (rd t231 x76_3) then (chancerykeep1_AxisPlacesKeepOrder.j3 k3 t223 t224 t220 t225 t226 x17_3 x18_3 x76_3 (rd t231 x76_3) t231 (t231.length : Int) x76_3 true) else (chancerykeep1_AxisPlacesKeepOrder.j3 k3 t223 t224 t220 t225 t226 x17_3 x18_3 x76_3 (rd t231 x76_3) t231 (t231.length : Int) x76_3 (decide (t236 < (wrap64 (x17_3 + 1))))))) else (chancerykeep1_AxisPlacesKeepOrder.j3 k3 t223 t224 t220 t225 t226 x17_3 x18_3 x76_3 (rd t231 x76_3) t231 (t231.length : Int) x76_3 (decide (t236 < (wrap64 (x17_3 + 1))))))) else (chancerykeep1_AxisPlacesKeepOrder.j3 k3 t223 t224 t220 t225 t226 x17_3 x18_3 x76_3 (rd t231 x76_3) t231 (t231.length : Int) x76_3 true)) else (chancerykeep1_AxisPlacesKeepOrder.j3 k3 t223 t224 t220 t225 t226 x17_3 x18_3 x76_3 (rd t231 x76_3) t231 (t231.length : Int) x76_3 true))) = some r := H
                          have A31 := Aside0.mk A310
                          clear A310
                          replace H := Option.bind_eq_some_iff.mp H
                          obtain ⟨⟨t238, t239⟩, A320, H⟩ := H
                          replace H : (if t237 = 0 then (if t239 = 0 then (if t236 > t238 then (chancerykeep1_AxisPlacesKeepOrder.j3 k3 t223 t224 t220 t225 t226 x17_3 x18_3 x76_3 (rd t231 x76_3) t231 (t231.length : Int) x76_3 true) else (if (rd t231 x76_3) ≥ 0 then (if (rd t231 x76_3) ≤ x17_3 then (chancerykeep1_AxisPlacesKeepOrder.j3 k3 t223 t224 t220 t225 t226 x17_3 x18_3 x76_3 (rd t231 x76_3) t231 (t231.length : Int) x76_3 true) else (if t238 > (rd t231 x76_3) then (chancerykeep1_AxisPlacesKeepOrder.j3 k3 t223 t224 t220 t225 t226 x17_3 x18_3 x76_3 (rd t231 x76_3) t231 (t231.length : Int) x76_3 true) else (chancerykeep1_AxisPlacesKeepOrder.j3 k3 t223 t224 t220 t225 t226 x17_3 x18_3 x76_3 (rd t231 x76_3) t231 (t231.length : Int) x76_3 (decide (t236 < (wrap64 (x17_3 + 1))))))) else (chancerykeep1_AxisPlacesKeepOrder.j3 k3 t223 t224 t220 t225 t226 x17_3 x18_3 x76_3 (rd t231 x76_3) t231 (t231.length : Int) x76_3 (decide (t236 < (wrap64 (x17_3 + 1))))))) else (chancerykeep1_AxisPlacesKeepOrder.j3 k3 t223 t224 t220 t225 t226 x17_3 x18_3 x76_3 (rd t231 x76_3) t231 (t231.length : Int) x76_3 true)) else (chancerykeep1_AxisPlacesKeepOrder.j3 k3 t223 t224 t220 t225 t226 x17_3 x18_3 x76_3 (rd t231 x76_3) t231 (t231.length : Int) x76_3 true)) = some r := H
                          have A32 := Aside0.mk A320
                          clear A320
                          have HC33 := Aside0.mk H
                          clear H
                          have p235 : 0 ≤ (x76_3 : Int) := of_decide_eq_true (by first | (with_reducible assumption) | assumption)
                          have q235 : x76_3 < (t231.length : Int) := of_decide_eq_true (by first | (with_reducible assumption) | assumption)
                          obtain ⟨ad235, e235, hx235_0⟩ := Kd.at_int (Kd.R_reads' HO_74.out).2.2 x76_3 p235 q235
                          cases e235
                          replace p235 := eq_true p235
                          replace q235 := eq_true q235
                          go_upto_region 23 with (first | ((with_reducible refine gate_callee (f := 40) rfl ?_); refine goesL_ (some 84) rfl rfl Try.func40 (by kernel_rfl) rfl #[.slice Ao14 t220.length co14, .int .i64 x76_3, .bool false] rfl (by (try simp only [List.map_toArray, List.map_cons, List.map_nil]); first | done | rfl | (simp only [List.length_drop, List.length_take]; rfl)) ?_; (with_reducible refine (axis_Gap.calls k3 _ _ t220 x76_3 false t236 t237 _ ?side1 ?side2 A31.out).mono ?_); (case side1 => repeat (first | exact (Kd.R_reads' HO_9.out).2.2 | (with_reducible refine Kd.C_alloc ?_ _) | (with_reducible refine Kd.C_drewN ?_ _) | (with_reducible refine Kd.C_drew ?_))); (case side2 => exact (Kd.R_reads' HO_9.out).2.1); rintro e w34 ⟨rfl, hb⟩; refine ⟨_, rfl, ?_⟩; have n0_ := Aside0.mk (Kd.R_below (by (with_reducible repeat (first | apply Kd.R_alloc | apply Kd.R_drewN | apply Kd.R_drew)); exact HO_9.out) hb); have n1_ := Aside0.mk (Kd.R_below (by (with_reducible repeat (first | apply Kd.R_alloc | apply Kd.R_drewN | apply Kd.R_drew)); exact HO_74.out) hb); have n2_ := Aside0.mk (below_step (by repeat (first | (with_reducible first | exact HB.out | apply below_alloc | apply pw_below_drewN | apply below_drew1) | exact HB.out)) hb); clear HO_9; clear HO_74; clear HB; have HO_9 := n0_; have HO_74 := n1_; have HB := n2_; clear n0_ n1_ n2_; (try clear hb); (try clear hb2); (try clear hk); (try clear hi)) | ((with_reducible refine gate_callee (f := 40) rfl ?_); refine goesL_ (some 90) rfl rfl Try.func40 (by kernel_rfl) rfl #[.slice Ao14 t220.length co14, .int .i64 x76_3, .bool true] rfl (by (try simp only [List.map_toArray, List.map_cons, List.map_nil]); first | done | rfl | (simp only [List.length_drop, List.length_take]; rfl)) ?_; (with_reducible refine (axis_Gap.calls k3 _ _ t220 x76_3 true t238 t239 _ ?side1 ?side2 A32.out).mono ?_); (case side1 => repeat (first | exact (Kd.R_reads' HO_9.out).2.2 | (with_reducible refine Kd.C_alloc ?_ _) | (with_reducible refine Kd.C_drewN ?_ _) | (with_reducible refine Kd.C_drew ?_))); (case side2 => exact (Kd.R_reads' HO_9.out).2.1); rintro e w35 ⟨rfl, hb⟩; refine ⟨_, rfl, ?_⟩; have n0_ := Aside0.mk (Kd.R_below (by (with_reducible repeat (first | apply Kd.R_alloc | apply Kd.R_drewN | apply Kd.R_drew)); exact HO_9.out) hb); have n1_ := Aside0.mk (Kd.R_below (by (with_reducible repeat (first | apply Kd.R_alloc | apply Kd.R_drewN | apply Kd.R_drew)); exact HO_74.out) hb); have n2_ := Aside0.mk (below_step (by repeat (first | (with_reducible first | exact HB.out | apply below_alloc | apply pw_below_drewN | apply below_drew1) | exact HB.out)) hb); clear HO_9; clear HO_74; clear HB; have HO_9 := n0_; have HO_74 := n1_; have HB := n2_; clear n0_ n1_ n2_; (try clear hb); (try clear hb2); (try clear hk); (try clear hi)))
                          (try simp only [Act.put, List.setIfInBounds_toArray, List.set_cons_zero, List.set_cons_succ])
                          go_cut [123] (fun v123 wc => ∃ (kq : Nat) (x123_32 : Bool), v123 = .bool x123_32 ∧ Aside0 (chancerykeep1_AxisPlacesKeepOrder.j3 kq t223 t224 t220 t225 t226 x17_3 x18_3 x76_3 (rd t231 x76_3) t231 (t231.length : Int) x76_3 x123_32 = some r) ∧ Aside0 (kq ≤ k3) ∧ Aside0 (Kd.R k97 97 wc w.heap.size (fun _ => True) (.slice Ao14 t220.length co14) t220) ∧ Aside0 (Kd.R (Kd.int .i64) 3 wc w.heap.size (fun _ => True) (.slice (some ad235) t231.length co27) t231) ∧ Aside0 (Below w.heap.size w wc))
                          case first =>
                            have H := HC33.out
                            clear HC33
                            by_cases c36 : t237 = 0
                            · rw [if_pos c36] at H
                              have c36b0 : (t237 == 0) = true := beq_iff_eq.mpr c36
                              have c36b1 : (t237 != 0) = false := bne_eq_false_iff_eq.mpr c36
                              clear c36
                              (first | rw [c36b0] | (simp only [i64_w, i32_w]; rw [c36b0]) | skip)
                              by_cases c37 : t239 = 0
                              · rw [if_pos c37] at H
                                have c37b0 : (t239 == 0) = true := beq_iff_eq.mpr c37
                                have c37b1 : (t239 != 0) = false := bne_eq_false_iff_eq.mpr c37
                                clear c37
                                by_cases c38 : t236 > t238
                                · rw [if_pos c38] at H
                                  have c38b0 : decide (t238 < t236) = true := decide_eq_true c38
                                  clear c38
                                  have H' := Aside0.mk H
                                  clear H
                                  go_wp2
                                  go_meet
                                  case rel => exact ⟨_, (true), (by first | rfl | (simp; done) | (simp [*]; done)), H', ⟨by have := HK1.out; have := HJ19.out; have := HK3.out; first | omega | exact Nat.le_refl _⟩, ⟨by (with_reducible repeat (first | apply Kd.R_alloc | apply Kd.R_drewN | apply Kd.R_drew)); exact HO_9.out⟩, ⟨by (with_reducible repeat (first | apply Kd.R_alloc | apply Kd.R_drewN | apply Kd.R_drew)); exact HO_74.out⟩, ⟨by repeat (first | (with_reducible first | exact HB.out | apply below_alloc | apply pw_below_drewN | apply below_drew1) | exact HB.out)⟩⟩
                                · rw [if_neg c38] at H
                                  have c38b0 : decide (t238 < t236) = false := decide_eq_false c38
                                  clear c38
                                  by_cases c39 : (rd t231 x76_3) ≥ 0
                                  · rw [if_pos c39] at H
                                    have c39b0 : decide (0 ≤ (rd t231 x76_3)) = true := decide_eq_true c39
                                    clear c39
                                    by_cases c40 : (rd t231 x76_3) ≤ x17_3
                                    · rw [if_pos c40] at H
                                      have c40b0 : decide ((rd t231 x76_3) ≤ x17_3) = true := decide_eq_true c40
                                      clear c40
                                      have H' := Aside0.mk H
                                      clear H
                                      go_wp2
                                      go_meet
                                      case rel => exact ⟨_, (true), (by first | rfl | (simp; done) | (simp [*]; done)), H', ⟨by have := HK1.out; have := HJ19.out; have := HK3.out; first | omega | exact Nat.le_refl _⟩, ⟨by (with_reducible repeat (first | apply Kd.R_alloc | apply Kd.R_drewN | apply Kd.R_drew)); exact HO_9.out⟩, ⟨by (with_reducible repeat (first | apply Kd.R_alloc | apply Kd.R_drewN | apply Kd.R_drew)); exact HO_74.out⟩, ⟨by repeat (first | (with_reducible first | exact HB.out | apply below_alloc | apply pw_below_drewN | apply below_drew1) | exact HB.out)⟩⟩
                                    · rw [if_neg c40] at H
                                      have c40b0 : decide ((rd t231 x76_3) ≤ x17_3) = false := decide_eq_false c40
                                      clear c40
                                      by_cases c41 : t238 > (rd t231 x76_3)
                                      · rw [if_pos c41] at H
                                        have c41b0 : decide ((rd t231 x76_3) < t238) = true := decide_eq_true c41
                                        clear c41
                                        have H' := Aside0.mk H
                                        clear H
                                        go_wp2
                                        go_meet
                                        case rel => exact ⟨_, (true), (by first | rfl | (simp; done) | (simp [*]; done)), H', ⟨by have := HK1.out; have := HJ19.out; have := HK3.out; first | omega | exact Nat.le_refl _⟩, ⟨by (with_reducible repeat (first | apply Kd.R_alloc | apply Kd.R_drewN | apply Kd.R_drew)); exact HO_9.out⟩, ⟨by (with_reducible repeat (first | apply Kd.R_alloc | apply Kd.R_drewN | apply Kd.R_drew)); exact HO_74.out⟩, ⟨by repeat (first | (with_reducible first | exact HB.out | apply below_alloc | apply pw_below_drewN | apply below_drew1) | exact HB.out)⟩⟩
                                      · rw [if_neg c41] at H
                                        have c41b0 : decide ((rd t231 x76_3) < t238) = false := decide_eq_false c41
                                        clear c41
                                        have H' := Aside0.mk H
                                        clear H
                                        go_wp2
                                        go_meet
                                        case rel => exact ⟨_, (decide (t236 < (wrap64 (x17_3 + 1)))), (by first | rfl | (simp; done) | (simp [*]; done)), H', ⟨by have := HK1.out; have := HJ19.out; have := HK3.out; first | omega | exact Nat.le_refl _⟩, ⟨by (with_reducible repeat (first | apply Kd.R_alloc | apply Kd.R_drewN | apply Kd.R_drew)); exact HO_9.out⟩, ⟨by (with_reducible repeat (first | apply Kd.R_alloc | apply Kd.R_drewN | apply Kd.R_drew)); exact HO_74.out⟩, ⟨by repeat (first | (with_reducible first | exact HB.out | apply below_alloc | apply pw_below_drewN | apply below_drew1) | exact HB.out)⟩⟩
                                  · rw [if_neg c39] at H
                                    have c39b0 : decide (0 ≤ (rd t231 x76_3)) = false := decide_eq_false c39
                                    clear c39
                                    have H' := Aside0.mk H
                                    clear H
                                    go_wp2
                                    go_meet
                                    case rel => exact ⟨_, (decide (t236 < (wrap64 (x17_3 + 1)))), (by first | rfl | (simp; done) | (simp [*]; done)), H', ⟨by have := HK1.out; have := HJ19.out; have := HK3.out; first | omega | exact Nat.le_refl _⟩, ⟨by (with_reducible repeat (first | apply Kd.R_alloc | apply Kd.R_drewN | apply Kd.R_drew)); exact HO_9.out⟩, ⟨by (with_reducible repeat (first | apply Kd.R_alloc | apply Kd.R_drewN | apply Kd.R_drew)); exact HO_74.out⟩, ⟨by repeat (first | (with_reducible first | exact HB.out | apply below_alloc | apply pw_below_drewN | apply below_drew1) | exact HB.out)⟩⟩
                              · rw [if_neg c37] at H
                                have c37b0 : (t239 == 0) = false := beq_eq_false_iff_ne.mpr c37
                                have c37b1 : (t239 != 0) = true := bne_iff_ne.mpr c37
                                have H' := Aside0.mk H
                                clear H
                                go_wp2
                                go_meet
                                case rel => exact ⟨_, (true), (by first | rfl | (simp; done) | (simp [*]; done)), H', ⟨by have := HK1.out; have := HJ19.out; have := HK3.out; first | omega | exact Nat.le_refl _⟩, ⟨by (with_reducible repeat (first | apply Kd.R_alloc | apply Kd.R_drewN | apply Kd.R_drew)); exact HO_9.out⟩, ⟨by (with_reducible repeat (first | apply Kd.R_alloc | apply Kd.R_drewN | apply Kd.R_drew)); exact HO_74.out⟩, ⟨by repeat (first | (with_reducible first | exact HB.out | apply below_alloc | apply pw_below_drewN | apply below_drew1) | exact HB.out)⟩⟩
                            · rw [if_neg c36] at H
                              have c36b0 : (t237 == 0) = false := beq_eq_false_iff_ne.mpr c36
                              have c36b1 : (t237 != 0) = true := bne_iff_ne.mpr c36
                              (first | rw [c36b0] | (simp only [i64_w, i32_w]; rw [c36b0]) | skip)
                              have H' := Aside0.mk H
                              clear H
                              go_wp2
                              go_meet
                              case rel => exact ⟨_, (true), (by first | rfl | (simp; done) | (simp [*]; done)), H', ⟨by have := HK1.out; have := HJ19.out; have := HK3.out; first | omega | exact Nat.le_refl _⟩, ⟨by (with_reducible repeat (first | apply Kd.R_alloc | apply Kd.R_drewN | apply Kd.R_drew)); exact HO_9.out⟩, ⟨by (with_reducible repeat (first | apply Kd.R_alloc | apply Kd.R_drewN | apply Kd.R_drew)); exact HO_74.out⟩, ⟨by repeat (first | (with_reducible first | exact HB.out | apply below_alloc | apply pw_below_drewN | apply below_drew1) | exact HB.out)⟩⟩
                          case rest =>
                            clear HC33
                            try clear c1
                            try clear p1
                            try clear c2
                            try clear p2
                            try clear q2
                            try clear hx2
                            try clear c3
                            try clear c4
                            try clear c6
                            try clear p6
                            try clear c9
                            try clear c16
                            try clear c16b0
                            try clear c17
                            try clear c23
                            try clear c23b0
                            try clear c23b1
                            try clear p23
                            try clear q23
                            try clear hx23
                            try clear c24
                            try clear c24b0
                            try clear c24b1
                            try clear c26
                            try clear c28
                            try clear c28b0
                            try clear c29
                            try clear c29b0
                            try clear c30
                            try clear c30b0
                            try clear c31
                            try clear c32
                            try clear c36
                            try clear c36b0
                            try clear c36b1
                            try clear c37
                            try clear c37b0
                            try clear c37b1
                            try clear c38
                            try clear c38b0
                            try clear c39
                            try clear c39b0
                            try clear c40
                            try clear c40b0
                            try clear c41
                            try clear c41b0
                            try clear hx235_0
                            try clear p1
                            try clear p2
                            try clear p235
                            try clear p6
                            try clear q235
                            obtain ⟨kq, x123_32, rfl, HA, HJ32, HO_9, HO_74, HB⟩ := hcut
                            cases kq with
                            | zero => exact absurd HA.out (by simp [chancerykeep1_AxisPlacesKeepOrder.j3])
                            | succ kj32 =>
                              have H := HA.out
                              clear HA
                              simp only [chancerykeep1_AxisPlacesKeepOrder.j3] at H
                              by_cases c42 : x123_32 = true
                              · subst c42
                                have H1 : (some false) = some r := by rw [if_pos rfl] at H; exact H
                                clear H
                                have H := H1
                                clear H1
                                obtain rfl := Option.some.inj H
                                go_wp2
                                go_ret
                                exact ⟨by first | rfl | (simp [errW_none, errW_some] <;> rfl) | (simp [*, errW_none, errW_some] <;> rfl), by repeat (first | (with_reducible first | exact HB.out | apply below_alloc | apply pw_below_drewN | apply below_drew1) | exact HB.out)⟩
                              · replace c42 := Bool.eq_false_iff.mpr c42
                                subst c42
                                have H1 : (if (rd t231 x76_3) ≥ 0 then (chancerykeep1_AxisPlacesKeepOrder.j4 kj32 t223 t224 t220 t225 t226 (rd t231 x76_3) x18_3 x76_3 (rd t231 x76_3) t231 (t231.length : Int) x76_3) else (chancerykeep1_AxisPlacesKeepOrder.j4 kj32 t223 t224 t220 t225 t226 x17_3 x18_3 x76_3 (rd t231 x76_3) t231 (t231.length : Int) x76_3)) = some r := by rw [if_neg (show ¬ (false = true) by decide)] at H; exact H
                                clear H
                                have H := H1
                                clear H1
                                have HC43 := Aside0.mk H
                                clear H
                                go_upto_if 125 with (fail)
                                go_cut [17] (fun v17 wc => ∃ (kq : Nat) (x17_42 : Int), v17 = .int .i64 x17_42 ∧ Aside0 (chancerykeep1_AxisPlacesKeepOrder.j4 kq t223 t224 t220 t225 t226 x17_42 x18_3 x76_3 (rd t231 x76_3) t231 (t231.length : Int) x76_3 = some r) ∧ Aside0 (kq ≤ kj32) ∧ Aside0 (Kd.R k97 97 wc w.heap.size (fun _ => True) (.slice Ao14 t220.length co14) t220) ∧ Aside0 (Kd.R (Kd.int .i64) 3 wc w.heap.size (fun _ => True) (.slice (some ad235) t231.length co27) t231) ∧ Aside0 (Below w.heap.size w wc))
                                case first =>
                                  have H := HC43.out
                                  clear HC43
                                  by_cases c44 : (rd t231 x76_3) ≥ 0
                                  · rw [if_pos c44] at H
                                    have c44b0 : decide (0 ≤ (rd t231 x76_3)) = true := decide_eq_true c44
                                    clear c44
                                    (first | rw [c44b0] | (simp only [i64_w, i32_w]; rw [c44b0]) | skip)
                                    have H' := Aside0.mk H
                                    clear H
                                    go_wp2
                                    go_meet
                                    case rel => exact ⟨_, ((rd t231 x76_3)), (by first | rfl | (simp; done) | (simp [*]; done)), H', ⟨by have := HK1.out; have := HJ19.out; have := HK3.out; have := HJ32.out; first | omega | exact Nat.le_refl _⟩, ⟨by (with_reducible repeat (first | apply Kd.R_alloc | apply Kd.R_drewN | apply Kd.R_drew)); exact HO_9.out⟩, ⟨by (with_reducible repeat (first | apply Kd.R_alloc | apply Kd.R_drewN | apply Kd.R_drew)); exact HO_74.out⟩, ⟨by repeat (first | (with_reducible first | exact HB.out | apply below_alloc | apply pw_below_drewN | apply below_drew1) | exact HB.out)⟩⟩
                                  · rw [if_neg c44] at H
                                    have c44b0 : decide (0 ≤ (rd t231 x76_3)) = false := decide_eq_false c44
                                    clear c44
                                    (first | rw [c44b0] | (simp only [i64_w, i32_w]; rw [c44b0]) | skip)
                                    have H' := Aside0.mk H
                                    clear H
                                    go_wp2
                                    go_meet
                                    case rel => exact ⟨_, (x17_3), (by first | rfl | (simp; done) | (simp [*]; done)), H', ⟨by have := HK1.out; have := HJ19.out; have := HK3.out; have := HJ32.out; first | omega | exact Nat.le_refl _⟩, ⟨by (with_reducible repeat (first | apply Kd.R_alloc | apply Kd.R_drewN | apply Kd.R_drew)); exact HO_9.out⟩, ⟨by (with_reducible repeat (first | apply Kd.R_alloc | apply Kd.R_drewN | apply Kd.R_drew)); exact HO_74.out⟩, ⟨by repeat (first | (with_reducible first | exact HB.out | apply below_alloc | apply pw_below_drewN | apply below_drew1) | exact HB.out)⟩⟩
                                case rest =>
                                  clear HC43
                                  try clear c1
                                  try clear p1
                                  try clear c2
                                  try clear p2
                                  try clear q2
                                  try clear hx2
                                  try clear c3
                                  try clear c4
                                  try clear c6
                                  try clear p6
                                  try clear c9
                                  try clear c16
                                  try clear c16b0
                                  try clear c17
                                  try clear c23
                                  try clear c23b0
                                  try clear c23b1
                                  try clear p23
                                  try clear q23
                                  try clear hx23
                                  try clear c24
                                  try clear c24b0
                                  try clear c24b1
                                  try clear c26
                                  try clear c28
                                  try clear c28b0
                                  try clear c29
                                  try clear c29b0
                                  try clear c30
                                  try clear c30b0
                                  try clear c31
                                  try clear c32
                                  try clear c36
                                  try clear c36b0
                                  try clear c36b1
                                  try clear c37
                                  try clear c37b0
                                  try clear c37b1
                                  try clear c38
                                  try clear c38b0
                                  try clear c39
                                  try clear c39b0
                                  try clear c40
                                  try clear c40b0
                                  try clear c41
                                  try clear c41b0
                                  try clear c42
                                  try clear c44
                                  try clear c44b0
                                  try clear hx235_0
                                  try clear p1
                                  try clear p2
                                  try clear p23
                                  try clear p235
                                  try clear p6
                                  try clear q2
                                  try clear q23
                                  try clear q235
                                  obtain ⟨kq, x17_42, rfl, HA, HJ42, HO_9, HO_74, HB⟩ := hcut
                                  cases kq with
                                  | zero => exact absurd HA.out (by simp [chancerykeep1_AxisPlacesKeepOrder.j4])
                                  | succ kj42 =>
                                    have H := HA.out
                                    clear HA
                                    simp only [chancerykeep1_AxisPlacesKeepOrder.j4] at H
                                    have HC45 := Aside0.mk H
                                    clear H
                                    go_upto_region 27 with (fail)
                                    go_cut [138] (fun v138 wc => ∃ (kq : Nat) (x138_44 : Bool), v138 = .bool x138_44 ∧ Aside0 (chancerykeep1_AxisPlacesKeepOrder.j5 kq t223 t224 t220 t225 t226 x17_42 x18_3 (rd t231 x76_3) t231 (t231.length : Int) x76_3 x138_44 = some r) ∧ Aside0 (kq ≤ kj42) ∧ Aside0 (Kd.R k97 97 wc w.heap.size (fun _ => True) (.slice Ao14 t220.length co14) t220) ∧ Aside0 (Kd.R (Kd.int .i64) 3 wc w.heap.size (fun _ => True) (.slice (some ad235) t231.length co27) t231) ∧ Aside0 (Below w.heap.size w wc))
                                    case first =>
                                      have H := HC45.out
                                      clear HC45
                                      by_cases c46 : x76_3 ≥ t223
                                      · rw [if_pos c46] at H
                                        have c46b0 : decide (t223 ≤ x76_3) = true := decide_eq_true c46
                                        clear c46
                                        (first | rw [c46b0] | (simp only [i64_w, i32_w]; rw [c46b0]) | skip)
                                        by_cases c47 : x76_3 < t224
                                        · rw [if_pos c47] at H
                                          have c47b0 : decide (x76_3 < t224) = true := decide_eq_true c47
                                          clear c47
                                          have H' := Aside0.mk H
                                          clear H
                                          go_wp2
                                          go_meet
                                          case rel => exact ⟨_, (decide ((rd t231 x76_3) ≥ 0)), (by first | rfl | (simp; done) | (simp [*]; done)), H', ⟨by have := HK1.out; have := HJ19.out; have := HK3.out; have := HJ32.out; have := HJ42.out; first | omega | exact Nat.le_refl _⟩, ⟨by (with_reducible repeat (first | apply Kd.R_alloc | apply Kd.R_drewN | apply Kd.R_drew)); exact HO_9.out⟩, ⟨by (with_reducible repeat (first | apply Kd.R_alloc | apply Kd.R_drewN | apply Kd.R_drew)); exact HO_74.out⟩, ⟨by repeat (first | (with_reducible first | exact HB.out | apply below_alloc | apply pw_below_drewN | apply below_drew1) | exact HB.out)⟩⟩
                                        · rw [if_neg c47] at H
                                          have c47b0 : decide (x76_3 < t224) = false := decide_eq_false c47
                                          clear c47
                                          have H' := Aside0.mk H
                                          clear H
                                          go_wp2
                                          go_meet
                                          case rel => exact ⟨_, (false), (by first | rfl | (simp; done) | (simp [*]; done)), H', ⟨by have := HK1.out; have := HJ19.out; have := HK3.out; have := HJ32.out; have := HJ42.out; first | omega | exact Nat.le_refl _⟩, ⟨by (with_reducible repeat (first | apply Kd.R_alloc | apply Kd.R_drewN | apply Kd.R_drew)); exact HO_9.out⟩, ⟨by (with_reducible repeat (first | apply Kd.R_alloc | apply Kd.R_drewN | apply Kd.R_drew)); exact HO_74.out⟩, ⟨by repeat (first | (with_reducible first | exact HB.out | apply below_alloc | apply pw_below_drewN | apply below_drew1) | exact HB.out)⟩⟩
                                      · rw [if_neg c46] at H
                                        have c46b0 : decide (t223 ≤ x76_3) = false := decide_eq_false c46
                                        clear c46
                                        (first | rw [c46b0] | (simp only [i64_w, i32_w]; rw [c46b0]) | skip)
                                        have H' := Aside0.mk H
                                        clear H
                                        go_wp2
                                        go_meet
                                        case rel => exact ⟨_, (false), (by first | rfl | (simp; done) | (simp [*]; done)), H', ⟨by have := HK1.out; have := HJ19.out; have := HK3.out; have := HJ32.out; have := HJ42.out; first | omega | exact Nat.le_refl _⟩, ⟨by (with_reducible repeat (first | apply Kd.R_alloc | apply Kd.R_drewN | apply Kd.R_drew)); exact HO_9.out⟩, ⟨by (with_reducible repeat (first | apply Kd.R_alloc | apply Kd.R_drewN | apply Kd.R_drew)); exact HO_74.out⟩, ⟨by repeat (first | (with_reducible first | exact HB.out | apply below_alloc | apply pw_below_drewN | apply below_drew1) | exact HB.out)⟩⟩
                                    case rest =>
                                      clear HC45
                                      try clear c1
                                      try clear p1
                                      try clear c2
                                      try clear p2
                                      try clear q2
                                      try clear hx2
                                      try clear c3
                                      try clear c4
                                      try clear c6
                                      try clear p6
                                      try clear c9
                                      try clear c16
                                      try clear c16b0
                                      try clear c17
                                      try clear c23
                                      try clear c23b0
                                      try clear c23b1
                                      try clear p23
                                      try clear q23
                                      try clear hx23
                                      try clear c24
                                      try clear c24b0
                                      try clear c24b1
                                      try clear c26
                                      try clear c28
                                      try clear c28b0
                                      try clear c29
                                      try clear c29b0
                                      try clear c30
                                      try clear c30b0
                                      try clear c31
                                      try clear c32
                                      try clear c36
                                      try clear c36b0
                                      try clear c36b1
                                      try clear c37
                                      try clear c37b0
                                      try clear c37b1
                                      try clear c38
                                      try clear c38b0
                                      try clear c39
                                      try clear c39b0
                                      try clear c40
                                      try clear c40b0
                                      try clear c41
                                      try clear c41b0
                                      try clear c42
                                      try clear c44
                                      try clear c44b0
                                      try clear c46
                                      try clear c46b0
                                      try clear c47
                                      try clear c47b0
                                      try clear hx235_0
                                      try clear p1
                                      try clear p2
                                      try clear p23
                                      try clear p235
                                      try clear p6
                                      try clear q2
                                      try clear q23
                                      try clear q235
                                      obtain ⟨kq, x138_44, rfl, HA, HJ44, HO_9, HO_74, HB⟩ := hcut
                                      cases kq with
                                      | zero => exact absurd HA.out (by simp [chancerykeep1_AxisPlacesKeepOrder.j5])
                                      | succ kj44 =>
                                        have H := HA.out
                                        clear HA
                                        simp only [chancerykeep1_AxisPlacesKeepOrder.j5] at H
                                        by_cases c48 : x138_44 = true
                                        · subst c48
                                          have H1 : (if (rd t231 x76_3) < t225 then (some false) else (if (rd t231 x76_3) ≥ t226 then (some false) else (chancerykeep1_AxisPlacesKeepOrder.l1 kj44 t223 t224 t220 t225 t226 x17_42 (wrap64 (x18_3 + 1)) t231 (t231.length : Int) (wrap64 (x76_3 + 1))))) = some r := by rw [if_pos rfl] at H; exact H
                                          clear H
                                          have H := H1
                                          clear H1
                                          by_cases c49 : (rd t231 x76_3) < t225
                                          · rw [if_pos c49] at H
                                            have c49b0 : decide ((rd t231 x76_3) < t225) = true := decide_eq_true c49
                                            clear c49
                                            obtain rfl := Option.some.inj H
                                            go_wp2
                                            go_ret
                                            exact ⟨by first | rfl | (simp [errW_none, errW_some] <;> rfl) | (simp [*, errW_none, errW_some] <;> rfl), by repeat (first | (with_reducible first | exact HB.out | apply below_alloc | apply pw_below_drewN | apply below_drew1) | exact HB.out)⟩
                                          · rw [if_neg c49] at H
                                            have c49b0 : decide ((rd t231 x76_3) < t225) = false := decide_eq_false c49
                                            clear c49
                                            by_cases c50 : (rd t231 x76_3) ≥ t226
                                            · rw [if_pos c50] at H
                                              have c50b0 : decide (t226 ≤ (rd t231 x76_3)) = true := decide_eq_true c50
                                              clear c50
                                              obtain rfl := Option.some.inj H
                                              go_wp2
                                              go_ret
                                              exact ⟨by first | rfl | (simp [errW_none, errW_some] <;> rfl) | (simp [*, errW_none, errW_some] <;> rfl), by repeat (first | (with_reducible first | exact HB.out | apply below_alloc | apply pw_below_drewN | apply below_drew1) | exact HB.out)⟩
                                            · rw [if_neg c50] at H
                                              have c50b0 : decide (t226 ≤ (rd t231 x76_3)) = false := decide_eq_false c50
                                              clear c50
                                              have H' := Aside0.mk H
                                              clear H
                                              go_wp2
                                              go_roundg kj44
                                              case measure => have := HK1.out; have := HJ19.out; have := HK3.out; have := HJ32.out; have := HJ42.out; have := HJ44.out; omega
                                              case rel => exact ⟨(x17_42), (wrap64 (x18_3 + 1)), (wrap64 (x76_3 + 1)), (by first | rfl | (simp; done) | (simp [*]; done)), (by first | rfl | (simp; done) | (simp [*]; done)), (by first | rfl | (simp; done) | (simp [*]; done)), H', ⟨by have := HK1.out; have := HJ19.out; have := HK3.out; have := HJ32.out; have := HJ42.out; have := HJ44.out; omega⟩, ⟨by (with_reducible repeat (first | apply Kd.R_alloc | apply Kd.R_drewN | apply Kd.R_drew)); exact HO_9.out⟩, ⟨by (with_reducible repeat (first | apply Kd.R_alloc | apply Kd.R_drewN | apply Kd.R_drew)); exact HO_74.out⟩, ⟨by repeat (first | (with_reducible first | exact HB.out | apply below_alloc | apply pw_below_drewN | apply below_drew1) | exact HB.out)⟩⟩
                                        · replace c48 := Bool.eq_false_iff.mpr c48
                                          subst c48
                                          have H1 : (chancerykeep1_AxisPlacesKeepOrder.l1 kj44 t223 t224 t220 t225 t226 x17_42 x18_3 t231 (t231.length : Int) (wrap64 (x76_3 + 1))) = some r := by rw [if_neg (show ¬ (false = true) by decide)] at H; exact H
                                          clear H
                                          have H := H1
                                          clear H1
                                          have H' := Aside0.mk H
                                          clear H
                                          go_wp2
                                          go_roundg kj44
                                          case measure => have := HK1.out; have := HJ19.out; have := HK3.out; have := HJ32.out; have := HJ42.out; have := HJ44.out; omega
                                          case rel => exact ⟨(x17_42), (x18_3), (wrap64 (x76_3 + 1)), (by first | rfl | (simp; done) | (simp [*]; done)), (by first | rfl | (simp; done) | (simp [*]; done)), (by first | rfl | (simp; done) | (simp [*]; done)), H', ⟨by have := HK1.out; have := HJ19.out; have := HK3.out; have := HJ32.out; have := HJ42.out; have := HJ44.out; omega⟩, ⟨by (with_reducible repeat (first | apply Kd.R_alloc | apply Kd.R_drewN | apply Kd.R_drew)); exact HO_9.out⟩, ⟨by (with_reducible repeat (first | apply Kd.R_alloc | apply Kd.R_drewN | apply Kd.R_drew)); exact HO_74.out⟩, ⟨by repeat (first | (with_reducible first | exact HB.out | apply below_alloc | apply pw_below_drewN | apply below_drew1) | exact HB.out)⟩⟩
                        · rw [if_neg c30] at H
                          exact absurd H (by simp)
                      · rw [if_neg c29] at H
                        exact absurd H (by simp)
                    · rw [if_neg c28] at H
                      have c28b0 : decide (x76_3 < (t231.length : Int)) = false := decide_eq_false c28
                      clear c28
                      by_cases c51 : x18_3 > 0
                      · rw [if_pos c51] at H
                        have c51b0 : decide (0 < x18_3) = true := decide_eq_true c51
                        clear c51
                        obtain rfl := Option.some.inj H
                        go_wp2
                        go_ret
                        exact ⟨by first | rfl | (simp [errW_none, errW_some] <;> rfl) | (simp [*, errW_none, errW_some] <;> rfl), by repeat (first | (with_reducible first | exact HB.out | apply below_alloc | apply pw_below_drewN | apply below_drew1) | exact HB.out)⟩
                      · rw [if_neg c51] at H
                        have c51b0 : decide (0 < x18_3) = false := decide_eq_false c51
                        clear c51
                        by_cases c52 : t225 = 0
                        · rw [if_pos c52] at H
                          have c52b0 : (t225 == 0) = true := beq_iff_eq.mpr c52
                          have c52b1 : (t225 != 0) = false := bne_eq_false_iff_eq.mpr c52
                          clear c52
                          obtain rfl := Option.some.inj H
                          go_wp2
                          go_ret
                          exact ⟨by first | rfl | (simp [errW_none, errW_some] <;> rfl) | (simp [*, errW_none, errW_some] <;> rfl), by repeat (first | (with_reducible first | exact HB.out | apply below_alloc | apply pw_below_drewN | apply below_drew1) | exact HB.out)⟩
                        · rw [if_neg c52] at H
                          have c52b0 : (t225 == 0) = false := beq_eq_false_iff_ne.mpr c52
                          have c52b1 : (t225 != 0) = true := bne_iff_ne.mpr c52
                          obtain rfl := Option.some.inj H
                          go_wp2
                          go_ret
                          exact ⟨by first | rfl | (simp [errW_none, errW_some] <;> rfl) | (simp [*, errW_none, errW_some] <;> rfl), by repeat (first | (with_reducible first | exact HB.out | apply below_alloc | apply pw_below_drewN | apply below_drew1) | exact HB.out)⟩
  · replace c6 := Bool.eq_false_iff.mpr c6
    subst c6
    have H1 : (some false) = some r := by rw [if_neg (show ¬ (false = true) by decide)] at H; exact H
    clear H
    have H := H1
    clear H1
    obtain rfl := Option.some.inj H
    go_enter Try.func9, Try.ntmps9
    go_wp2_with (first | ((with_reducible refine gate_callee (f := 30) rfl ?_); refine goesL_ (some 25) rfl rfl Try.func30 (by kernel_rfl) rfl #[] rfl (by (try simp only [List.map_toArray, List.map_cons, List.map_nil]); first | done | rfl | (simp only [List.length_drop, List.length_take]; rfl)) ?_; (with_reducible refine (chancerykeep1_axes.calls k  false _ A5.out).mono ?_); rintro e w53 ⟨rfl, hb⟩; refine ⟨_, rfl, ?_⟩; have n0_ := Aside0.mk (below_step (by repeat (first | (with_reducible first | exact HB.out | apply below_alloc | apply pw_below_drewN | apply below_drew1) | exact HB.out)) hb); clear HB; have HB := n0_; clear n0_; (try clear hb); (try clear hb2); (try clear hk); (try clear hi)))
    go_ret
    exact ⟨by first | rfl | (simp [errW_none, errW_some] <;> rfl) | (simp [*, errW_none, errW_some] <;> rfl), by repeat (first | (with_reducible first | exact HB.out | apply below_alloc | apply pw_below_drewN | apply below_drew1) | exact HB.out)⟩

/-- THE ONE PURE STATEMENT of chancerykeep1_AxisPlacesKeepOrder: yours. -/
def chancerykeep1_AxisPlacesKeepOrder.Pure : Prop := ∀ (a0 : Int) (l1 : List Int) (a2 : Int) (a3 : Int), (Lit.int .i64 a0).wf = true → l1.length ≤ maxLen → l1.length * 8 ≤ 140737488351232 → (∀ x ∈ l1, (Lit.int .i64 x).wf = true) → (Lit.int .i64 a2).wf = true → (Lit.int .i64 a3).wf = true → ∃ k, chancerykeep1_AxisPlacesKeepOrder.f k a0 l1 a2 a3 = some true
theorem chancerykeep1_AxisPlacesKeepOrder.walk (P : chancerykeep1_AxisPlacesKeepOrder.Pure) (a0 : Int) (a1 : Option Addr) (len1 cap1 : Nat) (z1 : List Int) (a2 : Int) (a3 : Int) (w : World) (w0 : (Lit.int .i64 a0).wf = true) (w1 : (a1 = none ∧ len1 = 0 ∧ cap1 = 0 ∧ z1 = []) ∨ ∃ x, a1 = some x ∧ len1 ≤ cap1 ∧ cap1 ≤ maxLen ∧ z1.length = cap1 ∧ (∀ i, i < z1.length → w.cell? (x.add i) = some (.int .i64 (z1.getD i 0))) ∧ ∀ n ∈ z1, (Lit.int .i64 n).wf = true) (y1 : len1 * 8 ≤ 140737488351232) (w2 : (Lit.int .i64 a2).wf = true) (w3 : (Lit.int .i64 a3).wf = true) :
    Calls Try.prog 9 #[.int .i64 a0, .slice a1 len1 cap1, .int .i64 a2, .int .i64 a3] w fun e w' => e = .returned (.bool true) ∧ Below w.heap.size w w' := by
  obtain ⟨l1, rfl, hr1, hm1, hw1, hc1⟩ := ReadsInt.ofRowC w1
  obtain ⟨k, h⟩ := P a0 l1 a2 a3 w0 hm1 y1 hw1 w2 w3
  refine (chancerykeep1_AxisPlacesKeepOrder.calls k a0 _ _ l1 a2 a3 true w (Kd.C_of_reads (d := (0 : Int)) (h1 := fun _ => rfl) hr1) hc1 h).mono ?_
  rintro e w' ⟨rfl, hd⟩
  exact ⟨rfl, hd⟩

end Go.Proofs.Ytdgemabmmomebaa.PAxis

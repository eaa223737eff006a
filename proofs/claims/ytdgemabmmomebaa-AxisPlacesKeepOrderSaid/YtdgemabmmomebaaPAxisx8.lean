-- PRINTED by print.py (a twelfth state) out of the translation. Not trusted: Lean checks it.
import Derived.Test.YtdgemabmmomebaaPAxisx0
import Derived.Test.YtdgemabmmomebaaPAxisx2
import Derived.Test.YtdgemabmmomebaaPAxisx7
namespace Go.Proofs.Ytdgemabmmomebaa.PAxis
open Go.RowKit Go.Proofs.YtdgemabmmomebaaW.PrintWords Go.Proofs.YtdgemabmmomebaaW.PrintLast Go.Proofs.YtdgemabmmomebaaW.PrintMore
attribute [local go_sem] max2_int min2_int max_two min_two max_three min_three max_four min_four   -- for this text's walks alone
set_option linter.unusedVariables false
set_option linter.unusedSimpArgs false
attribute [local go_sem high] Go.Proofs.Ytdgemabmmomebaa.Ord.leq_str Go.Proofs.Ytdgemabmmomebaa.Ord.gtr_str Go.Proofs.Ytdgemabmmomebaa.Ord.geq_str

/-! ### axis_Apply: function 39 -/
def axis_Apply.l0 : Nat → List (S97) → Int → List Int → List Int → Int → Int → Option (List Int × Int)
  | 0, _, _, _, _, _, _ => none
  | k + 1, x0, x7, x9, x22, x23, x24 => if x24 < x23 then (if 0 ≤ x24 then (if x24 < (x22.length : Int) then (if (rd x22 x24) < 0 then (some (([] : List Int), 2)) else (if (rd x22 x24) ≥ x7 then (some (([] : List Int), 2)) else ((axis_place.f k x0 (rd x22 x24)).bind fun t209 => (if x9.length < 17592186044416 then (axis_Apply.l0 k x0 x7 (x9 ++ [t209]) x22 x23 (wrap64 (x24 + 1))) else (none))))) else (none)) else (none)) else (some (x9, 0))
def axis_Apply.f (k : Nat) (l0 : List (S97)) (l1 : List Int) : Option (List Int × Int) := (axis_Check.f k l0).bind fun t205 => (if t205 = 0 then ((axis_lengths.f k l0).bind fun bt206 => (axis_Apply.l0 k l0 bt206.1 ([] : List Int) l1 (l1.length : Int) 0)) else (some (([] : List Int), t205)))
theorem axis_Apply.mono_l : ∀ k, (∀ y0 y1 y2 y3 y4 y5, LeO (axis_Apply.l0 k y0 y1 y2 y3 y4 y5) (axis_Apply.l0 (k + 1) y0 y1 y2 y3 y4 y5))
  | 0 => fun _ _ _ _ _ _ r h => by simp [axis_Apply.l0] at h
  | k + 1 => by
    have ih0 := axis_Apply.mono_l k
    · intro y0 y1 y2 y3 y4 y5
      unfold axis_Apply.l0
      repeat' first
      | (with_reducible exact ih0 _ _ _ _ _ _)
      | (with_reducible exact axis_Check.mono _ _)
      | (with_reducible exact axis_lengths.mono _ _)
      | (with_reducible exact axis_place.mono _ _ _)
      | (with_reducible exact LeO.refl _)
      | (with_reducible exact LeO.none _)
      | (with_reducible refine LeO.ite ?_ ?_)
      | (with_reducible refine LeO.bind ?_ (fun _ => ?_))
      | exact ih0 _ _ _ _ _ _
      | exact axis_Check.mono _ _
      | exact axis_lengths.mono _ _
      | exact axis_place.mono _ _ _
      | exact LeO.none _
      | refine LeO.ite ?_ ?_
      | refine LeO.bind ?_ (fun _ => ?_)
theorem axis_Apply.mono : ∀ a0 a1 k, LeO (axis_Apply.f k a0 a1) (axis_Apply.f (k + 1) a0 a1) := by
  intro a0 a1 k
  have ih0 := axis_Apply.mono_l k
  unfold axis_Apply.f
  repeat' first
      | (with_reducible exact ih0 _ _ _ _ _ _)
      | (with_reducible exact axis_Check.mono _ _)
      | (with_reducible exact axis_lengths.mono _ _)
      | (with_reducible exact axis_place.mono _ _ _)
      | (with_reducible exact LeO.refl _)
      | (with_reducible exact LeO.none _)
      | (with_reducible refine LeO.ite ?_ ?_)
      | (with_reducible refine LeO.bind ?_ (fun _ => ?_))
      | exact ih0 _ _ _ _ _ _
      | exact axis_Check.mono _ _
      | exact axis_lengths.mono _ _
      | exact axis_place.mono _ _ _
      | exact LeO.none _
      | refine LeO.ite ?_ ?_
      | refine LeO.bind ?_ (fun _ => ?_)
set_option maxHeartbeats 8000000 in
set_option maxRecDepth 100000 in
theorem axis_Apply.calls (k : Nat) (A0 : Option Addr) (c0 : Nat) (l0 : List (S97)) (A1 : Option Addr) (c1 : Nat) (l1 : List Int) (r1 : List Int) (r2 : Int) (w : World) (hr0 : Kd.C k97 w A0 l0.length l0) (hc0 : l0.length ≤ c0) (hr1 : Kd.C (Kd.int .i64) w A1 l1.length l1) (hc1 : l1.length ≤ c1) (h : axis_Apply.f k l0 l1 = some (r1, r2)) :
    Calls Try.prog 39 #[.slice A0 l0.length c0, .slice A1 l1.length c1] w fun e w' => ∃ v0_ : Value, e = .returned (.tuple #[v0_, .int .i64 r2]) ∧ Kd.R (Kd.int .i64) 3 w' w.heap.size (fun _ => True) v0_ r1 ∧ Below w.heap.size w w' := by
  have HR0 := Aside0.mk hr0
  have HC0 := Aside0.mk hc0
  clear hr0 hc0
  have HR1 := Aside0.mk hr1
  have HC1 := Aside0.mk hc1
  clear hr1 hc1
  have HB := Aside0.mk (Below.refl w.heap.size w)
  have H : ((axis_Check.f k l0).bind fun t205 => (if t205 = 0 then ((axis_lengths.f k l0).bind fun bt206 => (axis_Apply.l0 k l0 bt206.1 ([] : List Int) l1 (l1.length : Int) 0)) else (some (([] : List Int), t205)))) = some (r1, r2) := h
  clear h
  replace H := Option.bind_eq_some_iff.mp H
  obtain ⟨t205, A30, H⟩ := H
  replace H : (if t205 = 0 then ((axis_lengths.f k l0).bind fun bt206 => (axis_Apply.l0 k l0 bt206.1 ([] : List Int) l1 (l1.length : Int) 0)) else (some (([] : List Int), t205))) = some (r1, r2) := H
  have A3 := Aside0.mk A30
  clear A30
  by_cases c4 : t205 = 0
  · rw [if_pos c4] at H
    have c4b0 : (t205 == 0) = true := beq_iff_eq.mpr c4
    have c4b1 : (t205 != 0) = false := bne_eq_false_iff_eq.mpr c4
    clear c4
    replace H := Option.bind_eq_some_iff.mp H
    obtain ⟨⟨t206, t207⟩, A50, H⟩ := H
    replace H : (axis_Apply.l0 k l0 t206 ([] : List Int) l1 (l1.length : Int) 0) = some (r1, r2) := H
    have A5 := Aside0.mk A50
    clear A50
    have H' := Aside0.mk H
    clear H
    go_enter Try.func39, Try.ntmps39
    go_wp2_with (first | ((with_reducible refine gate_callee (f := 72) rfl ?_); refine goesL_ (some 13) rfl rfl Try.func72 (by kernel_rfl) rfl #[.slice A0 l0.length c0] rfl (by (try simp only [List.map_toArray, List.map_cons, List.map_nil]); first | done | rfl | (simp only [List.length_drop, List.length_take]; rfl)) ?_; (with_reducible refine (axis_Check.calls k _ _ l0 t205 _ ?side1 ?side2 A3.out).mono ?_); (case side1 => repeat (first | exact HR0.out | (with_reducible refine Kd.C_alloc ?_ _) | (with_reducible refine Kd.C_drewN ?_ _) | (with_reducible refine Kd.C_drew ?_))); (case side2 => exact HC0.out); rintro e w6 ⟨rfl, hb⟩; refine ⟨_, rfl, ?_⟩; have n0_ := Aside0.mk (below_step (by repeat (first | (with_reducible first | exact HB.out | apply below_alloc | apply pw_below_drewN | apply below_drew1) | exact HB.out)) hb); clear HB; have HB := n0_; clear n0_; (try clear hb); (try clear hb2); (try clear hk); (try clear hi)) | ((with_reducible refine gate_callee (f := 73) rfl ?_); refine goesL_ (some 19) rfl rfl Try.func73 (by kernel_rfl) rfl #[.slice A0 l0.length c0] rfl (by (try simp only [List.map_toArray, List.map_cons, List.map_nil]); first | done | rfl | (simp only [List.length_drop, List.length_take]; rfl)) ?_; (with_reducible refine (axis_lengths.calls k _ _ l0 t206 t207 _ ?side1 ?side2 A5.out).mono ?_); (case side1 => repeat (first | exact (Kd.C_below HR0.out HB.out) | (with_reducible refine Kd.C_alloc ?_ _) | (with_reducible refine Kd.C_drewN ?_ _) | (with_reducible refine Kd.C_drew ?_))); (case side2 => exact HC0.out); rintro e w7 ⟨rfl, hb⟩; refine ⟨_, rfl, ?_⟩; have n0_ := Aside0.mk (below_step (by repeat (first | (with_reducible first | exact HB.out | apply below_alloc | apply pw_below_drewN | apply below_drew1) | exact HB.out)) hb); clear HB; have HB := n0_; clear n0_; (try clear hb); (try clear hb2); (try clear hk); (try clear hi)))
    go_loopg [9, 24] k (fun kq v9 v24 w' => ∃ (x9_1 : List Int) (x24_1 : Int), v24 = .int .i64 x24_1 ∧ Aside0 (axis_Apply.l0 kq l0 t206 x9_1 l1 (l1.length : Int) x24_1 = some (r1, r2)) ∧ Aside0 (kq ≤ k) ∧ Aside0 (Kd.R (Kd.int .i64) 3 w' w.heap.size (fun _ => True) v9 x9_1) ∧ Aside0 (Below w.heap.size w w'))
    case atStart => exact ⟨(([] : List Int)), (0), (by first | rfl | (simp; done) | (simp [*]; done)), H', ⟨Nat.le_refl _⟩, ⟨by first | exact Kd.R_nil _ _ _ _ _ | exact Kd.N_nil _ _ _ _ _ | exact Kd.V_nil _ _ _ _ _ | exact Kd.Q_nil _ _ _ _ _ | exact Kd.S_nil _ _ _ _ _⟩, ⟨by repeat (first | (with_reducible first | exact HB.out | apply below_alloc | apply pw_below_drewN | apply below_drew1) | exact HB.out)⟩⟩
    case round =>
      clear H'
      try clear c1
      try clear p2
      try clear c3
      try clear c4
      try clear c4b0
      try clear c4b1
      try clear c7
      obtain ⟨x9_1, x24_1, rfl, HA, HK1, HO_9, HB⟩ := hrel
      cases gk with
      | zero => exact absurd HA.out (by simp [axis_Apply.l0])
      | succ k1 =>
        have H := HA.out
        clear HA
        simp only [axis_Apply.l0] at H
        by_cases c8 : x24_1 < (l1.length : Int)
        · rw [if_pos c8] at H
          have c8b0 : decide (x24_1 < (l1.length : Int)) = true := decide_eq_true c8
          clear c8
          by_cases c9 : 0 ≤ x24_1
          · rw [if_pos c9] at H
            have c9b0 : decide (0 ≤ x24_1) = true := decide_eq_true c9
            clear c9
            by_cases c10 : x24_1 < (l1.length : Int)
            · rw [if_pos c10] at H
              have c10b0 : decide (x24_1 < (l1.length : Int)) = true := decide_eq_true c10
              clear c10
              by_cases c11 : (rd l1 x24_1) < 0
              · rw [if_pos c11] at H
                have c11b0 : decide ((rd l1 x24_1) < 0) = true := decide_eq_true c11
                clear c11
                simp only [Option.some.injEq, Prod.mk.injEq] at H
                obtain ⟨rfl, rfl⟩ := H
                have p208 : 0 ≤ (x24_1 : Int) := of_decide_eq_true (by first | (with_reducible assumption) | assumption)
                have q208 : x24_1 < (l1.length : Int) := of_decide_eq_true (by first | (with_reducible assumption) | assumption)
                obtain ⟨ad208, e208, hx208_0⟩ := Kd.at_int HR1.out x24_1 p208 q208
                cases e208
                replace hx208_0 := (HB.out.cell (World.block_lt_of_cell? w _ hx208_0)).trans hx208_0
                replace p208 := eq_true p208
                replace q208 := eq_true q208
                go_wp2
                go_ret2
                exact ⟨_, by first | rfl | (simp [errW_none, errW_some] <;> rfl) | (simp [*, errW_none, errW_some] <;> rfl), by first | exact Kd.R_nil _ _ _ _ _ | exact Kd.N_nil _ _ _ _ _ | exact Kd.V_nil _ _ _ _ _ | exact Kd.Q_nil _ _ _ _ _ | exact Kd.S_nil _ _ _ _ _, by repeat (first | (with_reducible first | exact HB.out | apply below_alloc | apply pw_below_drewN | apply below_drew1) | exact HB.out)⟩
              · rw [if_neg c11] at H
                have c11b0 : decide ((rd l1 x24_1) < 0) = false := decide_eq_false c11
                clear c11
                by_cases c12 : (rd l1 x24_1) ≥ t206
                · rw [if_pos c12] at H
                  have c12b0 : decide (t206 ≤ (rd l1 x24_1)) = true := decide_eq_true c12
                  clear c12
                  simp only [Option.some.injEq, Prod.mk.injEq] at H
                  obtain ⟨rfl, rfl⟩ := H
                  have p208 : 0 ≤ (x24_1 : Int) := of_decide_eq_true (by first | (with_reducible assumption) | assumption)
                  have q208 : x24_1 < (l1.length : Int) := of_decide_eq_true (by first | (with_reducible assumption) | assumption)
                  obtain ⟨ad208, e208, hx208_0⟩ := Kd.at_int HR1.out x24_1 p208 q208
                  cases e208
                  replace hx208_0 := (HB.out.cell (World.block_lt_of_cell? w _ hx208_0)).trans hx208_0
                  replace p208 := eq_true p208
                  replace q208 := eq_true q208
                  go_wp2
                  go_ret2
                  exact ⟨_, by first | rfl | (simp [errW_none, errW_some] <;> rfl) | (simp [*, errW_none, errW_some] <;> rfl), by first | exact Kd.R_nil _ _ _ _ _ | exact Kd.N_nil _ _ _ _ _ | exact Kd.V_nil _ _ _ _ _ | exact Kd.Q_nil _ _ _ _ _ | exact Kd.S_nil _ _ _ _ _, by repeat (first | (with_reducible first | exact HB.out | apply below_alloc | apply pw_below_drewN | apply below_drew1) | exact HB.out)⟩
                · rw [if_neg c12] at H
                  have c12b0 : decide (t206 ≤ (rd l1 x24_1)) = false := decide_eq_false c12
                  clear c12
                  replace H := Option.bind_eq_some_iff.mp H
                  obtain ⟨t209, A130, H⟩ := H
                  replace H : (if x9_1.length < 17592186044416 then (axis_Apply.l0 k1 l0 t206 (x9_1 ++ [t209]) l1 (l1.length : Int) (wrap64 (x24_1 + 1))) else (none)) = some (r1, r2) := H
                  have A13 := Aside0.mk A130
                  clear A130
                  by_cases c14 : x9_1.length < 17592186044416
                  · rw [if_pos c14] at H
                    have LMc14 := Aside0.mk c14
                    clear c14
                    obtain ⟨y210, hy210⟩ : ∃ y_ : List Int, y_ = (x9_1 ++ [t209]) := ⟨_, rfl⟩
                    replace H : (axis_Apply.l0 k1 l0 t206 y210 l1 (l1.length : Int) (wrap64 (x24_1 + 1))) = some (r1, r2) := by first | (rw [hy210]; with_reducible exact H) | (have H2_ := (Option.bind_some _ _).symm.trans H; rw [hy210]; with_reducible exact H2_) | (have H2_ := (Option.bind_some _ _).symm.trans H; with_reducible exact H2_) | with_reducible exact H | (rw [hy210]; exact H) | exact H
                    have Ny210 := Aside0.mk hy210
                    clear hy210
                    have H' := Aside0.mk H
                    clear H
                    have p208 : 0 ≤ (x24_1 : Int) := of_decide_eq_true (by first | (with_reducible assumption) | assumption)
                    have q208 : x24_1 < (l1.length : Int) := of_decide_eq_true (by first | (with_reducible assumption) | assumption)
                    obtain ⟨ad208, e208, hx208_0⟩ := Kd.at_int HR1.out x24_1 p208 q208
                    cases e208
                    replace hx208_0 := (HB.out.cell (World.block_lt_of_cell? w _ hx208_0)).trans hx208_0
                    replace p208 := eq_true p208
                    replace q208 := eq_true q208
                    go_wp2_with (first | ((with_reducible refine gate_callee (f := 80) rfl ?_); refine goesL_ (some 38) rfl rfl Try.func80 (by kernel_rfl) rfl #[.slice A0 l0.length c0, .int .i64 (rd l1 x24_1)] rfl (by (try simp only [List.map_toArray, List.map_cons, List.map_nil]); first | done | rfl | (simp only [List.length_drop, List.length_take]; rfl)) ?_; (with_reducible refine (axis_place.calls k1 _ _ l0 (rd l1 x24_1) t209 _ ?side1 ?side2 A13.out).mono ?_); (case side1 => repeat (first | exact (Kd.C_below HR0.out HB.out) | (with_reducible refine Kd.C_alloc ?_ _) | (with_reducible refine Kd.C_drewN ?_ _) | (with_reducible refine Kd.C_drew ?_))); (case side2 => exact HC0.out); rintro e w15 ⟨rfl, hb⟩; refine ⟨_, rfl, ?_⟩; have n0_ := Aside0.mk (Kd.R_below (by (with_reducible repeat (first | apply Kd.R_alloc | apply Kd.R_drewN | apply Kd.R_drew)); exact HO_9.out) hb); have n1_ := Aside0.mk (below_step (by repeat (first | (with_reducible first | exact HB.out | apply below_alloc | apply pw_below_drewN | apply below_drew1) | exact HB.out)) hb); clear HO_9; clear HB; have HO_9 := n0_; have HB := n1_; clear n0_ n1_; (try clear hb); (try clear hb2); (try clear hk); (try clear hi)) | ((with_reducible refine gate_builtin (b := .append) (xs := #[.tmp 35, .tmp 39]) rfl ?_); at_builtin; refine Kd.R_append (Kd.int .i64) (w0 := w) w.heap.size rfl (.tmp 35) (.tmp 39) 43 3 (.int .i64 0) 8 rfl Try.underlying43 info3 rfl (by decide) (by omega) u9 x9_1 t209 [.int .i64 t209] (fun _ => True) (fun _ => False) rfl rfl ?aP (fun _ hk => hk.elim) ?aF ?aO ?aB ?aS ?aL ?_; (case aP => exact rfl); (case aB => exact (by repeat (first | (with_reducible first | exact HB.out | apply below_alloc | apply pw_below_drewN | apply below_drew1) | exact HB.out))); (case aF => exact (fun _ _ => trivial)); (case aO => exact (by (with_reducible repeat (first | apply Kd.R_alloc | apply Kd.R_drewN | apply Kd.R_drew)); exact HO_9.out)); (case aS => exact (below_size (by repeat (first | (with_reducible first | exact HB.out | apply below_alloc | apply pw_below_drewN | apply below_drew1) | exact HB.out)))); (case aL => have := LMc14.out; omega); intro v211 w16 ho hb hg hat; rw [← Ny210.out] at ho; have n0_ := Aside0.mk (hb); have n1_ := Aside0.mk (ho); clear HB; clear HO_9; have HB := n0_; have HO212 := n1_; clear n0_ n1_; clear ho hb hg hat))
                    go_roundg k1
                    case measure => have := HK1.out; omega
                    case rel => exact ⟨(y210), (wrap64 (x24_1 + 1)), (by first | rfl | (simp; done) | (simp [*]; done)), H', ⟨by have := HK1.out; omega⟩, ⟨by (with_reducible repeat (first | apply Kd.R_alloc | apply Kd.R_drewN | apply Kd.R_drew)); exact HO212.out⟩, ⟨by repeat (first | (with_reducible first | exact HB.out | apply below_alloc | apply pw_below_drewN | apply below_drew1) | exact HB.out)⟩⟩
                  · rw [if_neg c14] at H
                    exact absurd H (by simp)
            · rw [if_neg c10] at H
              exact absurd H (by simp)
          · rw [if_neg c9] at H
            exact absurd H (by simp)
        · rw [if_neg c8] at H
          have c8b0 : decide (x24_1 < (l1.length : Int)) = false := decide_eq_false c8
          clear c8
          simp only [Option.some.injEq, Prod.mk.injEq] at H
          obtain ⟨rfl, rfl⟩ := H
          go_wp2
          go_ret2
          exact ⟨_, by first | rfl | (simp [errW_none, errW_some] <;> rfl) | (simp [*, errW_none, errW_some] <;> rfl), by (with_reducible repeat (first | apply Kd.R_alloc | apply Kd.R_drewN | apply Kd.R_drew)); exact HO_9.out, by repeat (first | (with_reducible first | exact HB.out | apply below_alloc | apply pw_below_drewN | apply below_drew1) | exact HB.out)⟩
  · rw [if_neg c4] at H
    have c4b0 : (t205 == 0) = false := beq_eq_false_iff_ne.mpr c4
    have c4b1 : (t205 != 0) = true := bne_iff_ne.mpr c4
    simp only [Option.some.injEq, Prod.mk.injEq] at H
    obtain ⟨rfl, rfl⟩ := H
    go_enter Try.func39, Try.ntmps39
    go_wp2_with (first | ((with_reducible refine gate_callee (f := 72) rfl ?_); refine goesL_ (some 13) rfl rfl Try.func72 (by kernel_rfl) rfl #[.slice A0 l0.length c0] rfl (by (try simp only [List.map_toArray, List.map_cons, List.map_nil]); first | done | rfl | (simp only [List.length_drop, List.length_take]; rfl)) ?_; (with_reducible refine (axis_Check.calls k _ _ l0 t205 _ ?side1 ?side2 A3.out).mono ?_); (case side1 => repeat (first | exact HR0.out | (with_reducible refine Kd.C_alloc ?_ _) | (with_reducible refine Kd.C_drewN ?_ _) | (with_reducible refine Kd.C_drew ?_))); (case side2 => exact HC0.out); rintro e w17 ⟨rfl, hb⟩; refine ⟨_, rfl, ?_⟩; have n0_ := Aside0.mk (below_step (by repeat (first | (with_reducible first | exact HB.out | apply below_alloc | apply pw_below_drewN | apply below_drew1) | exact HB.out)) hb); clear HB; have HB := n0_; clear n0_; (try clear hb); (try clear hb2); (try clear hk); (try clear hi)))
    go_ret2
    exact ⟨_, by first | rfl | (simp [errW_none, errW_some] <;> rfl) | (simp [*, errW_none, errW_some] <;> rfl), by first | exact Kd.R_nil _ _ _ _ _ | exact Kd.N_nil _ _ _ _ _ | exact Kd.V_nil _ _ _ _ _ | exact Kd.Q_nil _ _ _ _ _ | exact Kd.S_nil _ _ _ _ _, by repeat (first | (with_reducible first | exact HB.out | apply below_alloc | apply pw_below_drewN | apply below_drew1) | exact HB.out)⟩

/-! ### axis_Gap: function 40 -/
mutual
def axis_Gap.j0 : Nat → List (S97) → Int → Bool → Bool → Option (Int × Int)
  | 0, _, _, _, _ => none
  | k + 1, x0, x1, x2, x31 => if x31 = true then (some (0, 2)) else (axis_Gap.l0 k x1 x2 0 0 x0 (x0.length : Int) 0)
def axis_Gap.l0 : Nat → Int → Bool → Int → Int → List (S97) → Int → Int → Option (Int × Int)
  | 0, _, _, _, _, _, _, _ => none
  | k + 1, x1, x2, x11, x12, x32, x33, x34 => if x34 < x33 then (if 0 ≤ x34 then (if x34 < (x32.length : Int) then (if ((rd_T97 x32 x34).f0) = 1 then (axis_Gap.j2 k x1 x2 x11 x12 x32 x33 x34 (decide (x11 < x1)) ((rd_T97 x32 x34).f0) ((rd_T97 x32 x34).f1)) else (axis_Gap.j2 k x1 x2 x11 x12 x32 x33 x34 false ((rd_T97 x32 x34).f0) ((rd_T97 x32 x34).f1))) else (none)) else (none)) else (some (x12, 0))
def axis_Gap.j2 : Nat → Int → Bool → Int → Int → List (S97) → Int → Int → Bool → Int → Int → Option (Int × Int)
  | 0, _, _, _, _, _, _, _, _, _, _ => none
  | k + 1, x1, x2, x11, x12, x32, x33, x34, x38, x218000, x218001 => if x38 = true then (axis_Gap.j3 k x1 x2 x11 x12 x32 x33 x34 x38 x218000 x218001) else (if x218000 = 1 then (if x11 = x1 then (axis_Gap.j3 k x1 x2 x11 x12 x32 x33 x34 x2 x218000 x218001) else (axis_Gap.j3 k x1 x2 x11 x12 x32 x33 x34 false x218000 x218001)) else (axis_Gap.j3 k x1 x2 x11 x12 x32 x33 x34 false x218000 x218001))
def axis_Gap.j3 : Nat → Int → Bool → Int → Int → List (S97) → Int → Int → Bool → Int → Int → Option (Int × Int)
  | 0, _, _, _, _, _, _, _, _, _, _ => none
  | k + 1, x1, x2, x11, x12, x32, x33, x34, x38, x218000, x218001 => if x38 = true then (if x218000 = 1 then (axis_Gap.l0 k x1 x2 x11 (wrap64 (x12 + x218001)) x32 x33 (wrap64 (x34 + 1))) else (axis_Gap.l0 k x1 x2 (wrap64 (x11 + x218001)) (wrap64 (x12 + x218001)) x32 x33 (wrap64 (x34 + 1)))) else (if x218000 = 0 then (if x218000 = 1 then (axis_Gap.l0 k x1 x2 x11 (wrap64 (x12 + (mn x218001 (mx 0 (wrap64 (x1 - x11)))))) x32 x33 (wrap64 (x34 + 1))) else (axis_Gap.l0 k x1 x2 (wrap64 (x11 + x218001)) (wrap64 (x12 + (mn x218001 (mx 0 (wrap64 (x1 - x11)))))) x32 x33 (wrap64 (x34 + 1)))) else (if x218000 = 1 then (axis_Gap.l0 k x1 x2 x11 x12 x32 x33 (wrap64 (x34 + 1))) else (axis_Gap.l0 k x1 x2 (wrap64 (x11 + x218001)) x12 x32 x33 (wrap64 (x34 + 1)))))
end
def axis_Gap.f (k : Nat) (l0 : List (S97)) (a1 : Int) (a2 : Bool) : Option (Int × Int) := (axis_Check.f k l0).bind fun t213 => (if t213 = 0 then ((axis_lengths.f k l0).bind fun bt214 => (if a1 < 0 then (axis_Gap.j0 k l0 a1 a2 true) else (axis_Gap.j0 k l0 a1 a2 (decide (a1 > bt214.1))))) else (some (0, t213)))
theorem axis_Gap.mono_l : ∀ k, (∀ y0 y1 y2 y3, LeO (axis_Gap.j0 k y0 y1 y2 y3) (axis_Gap.j0 (k + 1) y0 y1 y2 y3)) ∧ (∀ y0 y1 y2 y3 y4 y5 y6, LeO (axis_Gap.l0 k y0 y1 y2 y3 y4 y5 y6) (axis_Gap.l0 (k + 1) y0 y1 y2 y3 y4 y5 y6)) ∧ (∀ y0 y1 y2 y3 y4 y5 y6 y7 y8 y9, LeO (axis_Gap.j2 k y0 y1 y2 y3 y4 y5 y6 y7 y8 y9) (axis_Gap.j2 (k + 1) y0 y1 y2 y3 y4 y5 y6 y7 y8 y9)) ∧ (∀ y0 y1 y2 y3 y4 y5 y6 y7 y8 y9, LeO (axis_Gap.j3 k y0 y1 y2 y3 y4 y5 y6 y7 y8 y9) (axis_Gap.j3 (k + 1) y0 y1 y2 y3 y4 y5 y6 y7 y8 y9))
  | 0 => ⟨fun _ _ _ _ r h => by simp [axis_Gap.j0] at h, fun _ _ _ _ _ _ _ r h => by simp [axis_Gap.l0] at h, fun _ _ _ _ _ _ _ _ _ _ r h => by simp [axis_Gap.j2] at h, fun _ _ _ _ _ _ _ _ _ _ r h => by simp [axis_Gap.j3] at h⟩
  | k + 1 => by
    obtain ⟨ih0, ih1, ih2, ih3⟩ := axis_Gap.mono_l k
    refine ⟨?_, ?_, ?_, ?_⟩
    · intro y0 y1 y2 y3
      unfold axis_Gap.j0
      repeat' first
      | (with_reducible exact ih0 _ _ _ _)
      | (with_reducible exact ih1 _ _ _ _ _ _ _)
      | (with_reducible exact ih2 _ _ _ _ _ _ _ _ _ _)
      | (with_reducible exact ih3 _ _ _ _ _ _ _ _ _ _)
      | (with_reducible exact axis_Check.mono _ _)
      | (with_reducible exact axis_lengths.mono _ _)
      | (with_reducible exact LeO.refl _)
      | (with_reducible exact LeO.none _)
      | (with_reducible refine LeO.ite ?_ ?_)
      | (with_reducible refine LeO.bind ?_ (fun _ => ?_))
      | exact ih0 _ _ _ _
      | exact ih1 _ _ _ _ _ _ _
      | exact ih2 _ _ _ _ _ _ _ _ _ _
      | exact ih3 _ _ _ _ _ _ _ _ _ _
      | exact axis_Check.mono _ _
      | exact axis_lengths.mono _ _
      | exact LeO.none _
      | refine LeO.ite ?_ ?_
      | refine LeO.bind ?_ (fun _ => ?_)
    · intro y0 y1 y2 y3 y4 y5 y6
      unfold axis_Gap.l0
      repeat' first
      | (with_reducible exact ih0 _ _ _ _)
      | (with_reducible exact ih1 _ _ _ _ _ _ _)
      | (with_reducible exact ih2 _ _ _ _ _ _ _ _ _ _)
      | (with_reducible exact ih3 _ _ _ _ _ _ _ _ _ _)
      | (with_reducible exact axis_Check.mono _ _)
      | (with_reducible exact axis_lengths.mono _ _)
      | (with_reducible exact LeO.refl _)
      | (with_reducible exact LeO.none _)
      | (with_reducible refine LeO.ite ?_ ?_)
      | (with_reducible refine LeO.bind ?_ (fun _ => ?_))
      | exact ih0 _ _ _ _
      | exact ih1 _ _ _ _ _ _ _
      | exact ih2 _ _ _ _ _ _ _ _ _ _
      | exact ih3 _ _ _ _ _ _ _ _ _ _
      | exact axis_Check.mono _ _
      | exact axis_lengths.mono _ _
      | exact LeO.none _
      | refine LeO.ite ?_ ?_
      | refine LeO.bind ?_ (fun _ => ?_)
    · intro y0 y1 y2 y3 y4 y5 y6 y7 y8 y9
      unfold axis_Gap.j2
      repeat' first
      | (with_reducible exact ih0 _ _ _ _)
      | (with_reducible exact ih1 _ _ _ _ _ _ _)
      | (with_reducible exact ih2 _ _ _ _ _ _ _ _ _ _)
      | (with_reducible exact ih3 _ _ _ _ _ _ _ _ _ _)
      | (with_reducible exact axis_Check.mono _ _)
      | (with_reducible exact axis_lengths.mono _ _)
      | (with_reducible exact LeO.refl _)
      | (with_reducible exact LeO.none _)
      | (with_reducible refine LeO.ite ?_ ?_)
      | (with_reducible refine LeO.bind ?_ (fun _ => ?_))
      | exact ih0 _ _ _ _
      | exact ih1 _ _ _ _ _ _ _
      | exact ih2 _ _ _ _ _ _ _ _ _ _
      | exact ih3 _ _ _ _ _ _ _ _ _ _
      | exact axis_Check.mono _ _
      | exact axis_lengths.mono _ _
      | exact LeO.none _
      | refine LeO.ite ?_ ?_
      | refine LeO.bind ?_ (fun _ => ?_)
    · intro y0 y1 y2 y3 y4 y5 y6 y7 y8 y9
      unfold axis_Gap.j3
      repeat' first
      | (with_reducible exact ih0 _ _ _ _)
      | (with_reducible exact ih1 _ _ _ _ _ _ _)
      | (with_reducible exact ih2 _ _ _ _ _ _ _ _ _ _)
      | (with_reducible exact ih3 _ _ _ _ _ _ _ _ _ _)
      | (with_reducible exact axis_Check.mono _ _)
      | (with_reducible exact axis_lengths.mono _ _)
      | (with_reducible exact LeO.refl _)
      | (with_reducible exact LeO.none _)
      | (with_reducible refine LeO.ite ?_ ?_)
      | (with_reducible refine LeO.bind ?_ (fun _ => ?_))
      | exact ih0 _ _ _ _
      | exact ih1 _ _ _ _ _ _ _
      | exact ih2 _ _ _ _ _ _ _ _ _ _
      | exact ih3 _ _ _ _ _ _ _ _ _ _
      | exact axis_Check.mono _ _
      | exact axis_lengths.mono _ _
      | exact LeO.none _
      | refine LeO.ite ?_ ?_
      | refine LeO.bind ?_ (fun _ => ?_)
theorem axis_Gap.mono : ∀ a0 a1 a2 k, LeO (axis_Gap.f k a0 a1 a2) (axis_Gap.f (k + 1) a0 a1 a2) := by
  intro a0 a1 a2 k
  obtain ⟨ih0, ih1, ih2, ih3⟩ := axis_Gap.mono_l k
  unfold axis_Gap.f
  repeat' first
      | (with_reducible exact ih0 _ _ _ _)
      | (with_reducible exact ih1 _ _ _ _ _ _ _)
      | (with_reducible exact ih2 _ _ _ _ _ _ _ _ _ _)
      | (with_reducible exact ih3 _ _ _ _ _ _ _ _ _ _)
      | (with_reducible exact axis_Check.mono _ _)
      | (with_reducible exact axis_lengths.mono _ _)
      | (with_reducible exact LeO.refl _)
      | (with_reducible exact LeO.none _)
      | (with_reducible refine LeO.ite ?_ ?_)
      | (with_reducible refine LeO.bind ?_ (fun _ => ?_))
      | exact ih0 _ _ _ _
      | exact ih1 _ _ _ _ _ _ _
      | exact ih2 _ _ _ _ _ _ _ _ _ _
      | exact ih3 _ _ _ _ _ _ _ _ _ _
      | exact axis_Check.mono _ _
      | exact axis_lengths.mono _ _
      | exact LeO.none _
      | refine LeO.ite ?_ ?_
      | refine LeO.bind ?_ (fun _ => ?_)
set_option maxHeartbeats 8000000 in
set_option maxRecDepth 100000 in
theorem axis_Gap.calls (k : Nat) (A0 : Option Addr) (c0 : Nat) (l0 : List (S97)) (a1 : Int) (a2 : Bool) (r1 : Int) (r2 : Int) (w : World) (hr0 : Kd.C k97 w A0 l0.length l0) (hc0 : l0.length ≤ c0) (h : axis_Gap.f k l0 a1 a2 = some (r1, r2)) :
    Calls Try.prog 40 #[.slice A0 l0.length c0, .int .i64 a1, .bool a2] w fun e w' => e = .returned (.tuple #[.int .i64 r1, .int .i64 r2]) ∧ Below w.heap.size w w' := by
  have hu97 := Try.underlying97
  have HR0 := Aside0.mk hr0
  have HC0 := Aside0.mk hc0
  clear hr0 hc0
  have HB := Aside0.mk (Below.refl w.heap.size w)
  have H : ((axis_Check.f k l0).bind fun t213 => (if t213 = 0 then ((axis_lengths.f k l0).bind fun bt214 => (if a1 < 0 then (axis_Gap.j0 k l0 a1 a2 true) else (axis_Gap.j0 k l0 a1 a2 (decide (a1 > bt214.1))))) else (some (0, t213)))) = some (r1, r2) := h
  clear h
  replace H := Option.bind_eq_some_iff.mp H
  obtain ⟨t213, A40, H⟩ := H
  replace H : (if t213 = 0 then ((axis_lengths.f k l0).bind fun bt214 => (if a1 < 0 then (axis_Gap.j0 k l0 a1 a2 true) else (axis_Gap.j0 k l0 a1 a2 (decide (a1 > bt214.1))))) else (some (0, t213))) = some (r1, r2) := H
  have A4 := Aside0.mk A40
  clear A40
  by_cases c5 : t213 = 0
  · rw [if_pos c5] at H
    have c5b0 : (t213 == 0) = true := beq_iff_eq.mpr c5
    have c5b1 : (t213 != 0) = false := bne_eq_false_iff_eq.mpr c5
    clear c5
    replace H := Option.bind_eq_some_iff.mp H
    obtain ⟨⟨t214, t215⟩, A60, H⟩ := H
    replace H : (if a1 < 0 then (axis_Gap.j0 k l0 a1 a2 true) else (axis_Gap.j0 k l0 a1 a2 (decide (a1 > t214)))) = some (r1, r2) := H
    have A6 := Aside0.mk A60
    clear A60
    have HC7 := Aside0.mk H
    clear H
    go_enter Try.func40, Try.ntmps40
    go_upto_region 5 with (first | ((with_reducible refine gate_callee (f := 72) rfl ?_); refine goesL_ (some 16) rfl rfl Try.func72 (by kernel_rfl) rfl #[.slice A0 l0.length c0] rfl (by (try simp only [List.map_toArray, List.map_cons, List.map_nil]); first | done | rfl | (simp only [List.length_drop, List.length_take]; rfl)) ?_; (with_reducible refine (axis_Check.calls k _ _ l0 t213 _ ?side1 ?side2 A4.out).mono ?_); (case side1 => repeat (first | exact HR0.out | (with_reducible refine Kd.C_alloc ?_ _) | (with_reducible refine Kd.C_drewN ?_ _) | (with_reducible refine Kd.C_drew ?_))); (case side2 => exact HC0.out); rintro e w8 ⟨rfl, hb⟩; refine ⟨_, rfl, ?_⟩; have n0_ := Aside0.mk (below_step (by repeat (first | (with_reducible first | exact HB.out | apply below_alloc | apply pw_below_drewN | apply below_drew1) | exact HB.out)) hb); clear HB; have HB := n0_; clear n0_; (try clear hb); (try clear hb2); (try clear hk); (try clear hi)) | ((with_reducible refine gate_callee (f := 73) rfl ?_); refine goesL_ (some 22) rfl rfl Try.func73 (by kernel_rfl) rfl #[.slice A0 l0.length c0] rfl (by (try simp only [List.map_toArray, List.map_cons, List.map_nil]); first | done | rfl | (simp only [List.length_drop, List.length_take]; rfl)) ?_; (with_reducible refine (axis_lengths.calls k _ _ l0 t214 t215 _ ?side1 ?side2 A6.out).mono ?_); (case side1 => repeat (first | exact (Kd.C_below HR0.out HB.out) | (with_reducible refine Kd.C_alloc ?_ _) | (with_reducible refine Kd.C_drewN ?_ _) | (with_reducible refine Kd.C_drew ?_))); (case side2 => exact HC0.out); rintro e w9 ⟨rfl, hb⟩; refine ⟨_, rfl, ?_⟩; have n0_ := Aside0.mk (below_step (by repeat (first | (with_reducible first | exact HB.out | apply below_alloc | apply pw_below_drewN | apply below_drew1) | exact HB.out)) hb); clear HB; have HB := n0_; clear n0_; (try clear hb); (try clear hb2); (try clear hk); (try clear hi)))
    (try simp only [Act.put, List.setIfInBounds_toArray, List.set_cons_zero, List.set_cons_succ])
    go_cut [31] (fun v31 wc => ∃ (kq : Nat) (x31_6 : Bool), v31 = .bool x31_6 ∧ Aside0 (axis_Gap.j0 kq l0 a1 a2 x31_6 = some (r1, r2)) ∧ Aside0 (kq ≤ k) ∧ Aside0 (Below w.heap.size w wc))
    case first =>
      have H := HC7.out
      clear HC7
      by_cases c10 : a1 < 0
      · rw [if_pos c10] at H
        have c10b0 : decide (a1 < 0) = true := decide_eq_true c10
        clear c10
        (first | rw [c10b0] | (simp only [i64_w, i32_w]; rw [c10b0]) | skip)
        have H' := Aside0.mk H
        clear H
        go_wp2
        go_meet
        case rel => exact ⟨_, (true), (by first | rfl | (simp; done) | (simp [*]; done)), H', ⟨by first | omega | exact Nat.le_refl _⟩, ⟨by repeat (first | (with_reducible first | exact HB.out | apply below_alloc | apply pw_below_drewN | apply below_drew1) | exact HB.out)⟩⟩
      · rw [if_neg c10] at H
        have c10b0 : decide (a1 < 0) = false := decide_eq_false c10
        clear c10
        (first | rw [c10b0] | (simp only [i64_w, i32_w]; rw [c10b0]) | skip)
        have H' := Aside0.mk H
        clear H
        go_wp2
        go_meet
        case rel => exact ⟨_, (decide (a1 > t214)), (by first | rfl | (simp; done) | (simp [*]; done)), H', ⟨by first | omega | exact Nat.le_refl _⟩, ⟨by repeat (first | (with_reducible first | exact HB.out | apply below_alloc | apply pw_below_drewN | apply below_drew1) | exact HB.out)⟩⟩
    case rest =>
      clear HC7
      try clear c1
      try clear p2
      try clear c4
      try clear c5
      try clear c5b0
      try clear c5b1
      try clear c7
      try clear c10
      try clear c10b0
      obtain ⟨kq, x31_6, rfl, HA, HJ6, HB⟩ := hcut
      cases kq with
      | zero => exact absurd HA.out (by simp [axis_Gap.j0])
      | succ kj6 =>
        have H := HA.out
        clear HA
        simp only [axis_Gap.j0] at H
        by_cases c11 : x31_6 = true
        · subst c11
          have H1 : (some (0, 2)) = some (r1, r2) := by rw [if_pos rfl] at H; exact H
          clear H
          have H := H1
          clear H1
          simp only [Option.some.injEq, Prod.mk.injEq] at H
          obtain ⟨rfl, rfl⟩ := H
          go_wp2
          go_ret2
          exact ⟨by first | rfl | (simp [errW_none, errW_some] <;> rfl) | (simp [*, errW_none, errW_some] <;> rfl), by repeat (first | (with_reducible first | exact HB.out | apply below_alloc | apply pw_below_drewN | apply below_drew1) | exact HB.out)⟩
        · replace c11 := Bool.eq_false_iff.mpr c11
          subst c11
          have H1 : (axis_Gap.l0 kj6 a1 a2 0 0 l0 (l0.length : Int) 0) = some (r1, r2) := by rw [if_neg (show ¬ (false = true) by decide)] at H; exact H
          clear H
          have H := H1
          clear H1
          have H' := Aside0.mk H
          clear H
          go_wp2
          go_loopg [11, 12, 34] kj6 (fun kq v11 v12 v34 w' => ∃ (x11_2 : Int) (x12_2 : Int) (x34_2 : Int), v11 = .int .i64 x11_2 ∧ v12 = .int .i64 x12_2 ∧ v34 = .int .i64 x34_2 ∧ Aside0 (axis_Gap.l0 kq a1 a2 x11_2 x12_2 l0 (l0.length : Int) x34_2 = some (r1, r2)) ∧ Aside0 (kq ≤ kj6) ∧ Aside0 (Below w.heap.size w w'))
          case atStart => exact ⟨(0), (0), (0), (by first | rfl | (simp; done) | (simp [*]; done)), (by first | rfl | (simp; done) | (simp [*]; done)), (by first | rfl | (simp; done) | (simp [*]; done)), H', ⟨Nat.le_refl _⟩, ⟨by repeat (first | (with_reducible first | exact HB.out | apply below_alloc | apply pw_below_drewN | apply below_drew1) | exact HB.out)⟩⟩
          case round =>
            clear H'
            try clear c1
            try clear p2
            try clear c4
            try clear c5
            try clear c5b0
            try clear c5b1
            try clear c7
            try clear c10
            try clear c10b0
            try clear c11
            try clear p2
            obtain ⟨x11_2, x12_2, x34_2, rfl, rfl, rfl, HA, HK2, HB⟩ := hrel
            cases gk with
            | zero => exact absurd HA.out (by simp [axis_Gap.l0])
            | succ k2 =>
              have H := HA.out
              clear HA
              simp only [axis_Gap.l0] at H
              by_cases c12 : x34_2 < (l0.length : Int)
              · rw [if_pos c12] at H
                have c12b0 : decide (x34_2 < (l0.length : Int)) = true := decide_eq_true c12
                clear c12
                by_cases c13 : 0 ≤ x34_2
                · rw [if_pos c13] at H
                  have c13b0 : decide (0 ≤ x34_2) = true := decide_eq_true c13
                  clear c13
                  by_cases c14 : x34_2 < (l0.length : Int)
                  · rw [if_pos c14] at H
                    have c14b0 : decide (x34_2 < (l0.length : Int)) = true := decide_eq_true c14
                    clear c14
                    have HC15 := Aside0.mk H
                    clear H
                    have p216 : 0 ≤ (x34_2 : Int) := of_decide_eq_true (by first | (with_reducible assumption) | assumption)
                    have q216 : x34_2 < (l0.length : Int) := of_decide_eq_true (by first | (with_reducible assumption) | assumption)
                    obtain ⟨ad216, e216, hx216_0, hx216_1⟩ := at_T97 HR0.out x34_2 p216 q216
                    cases e216
                    replace hx216_0 := (HB.out.cell (World.block_lt_of_cell? w _ hx216_0)).trans hx216_0
                    replace hx216_1 := (HB.out.cell (World.block_lt_of_cell? w _ hx216_1)).trans hx216_1
                    replace p216 := eq_true p216
                    replace q216 := eq_true q216
                    go_upto_region 11 with (first | ((with_reducible refine gate_dst (N := 14) rfl ?_); refine box_event ?hg (N := 14) ?hd (cs := #[.int .i64 0, .int .i64 0]) (t := 97) ?hr ?_; (case hd => rfl); (case hg => rfl); (case hr => first | (go_simp; done) | (go_simp; rfl)); intro gb217 hg w16 hbox hb; have n0_ := Aside0.mk (below_step (by repeat (first | (with_reducible first | exact HB.out | apply below_alloc | apply pw_below_drewN | apply below_drew1) | exact HB.out)) hb); have n1_ := Aside0.mk (hbox); have n2_ := Aside0.mk ((by rw [hg]; exact (below_size (by repeat (first | (with_reducible first | exact HB.out | apply below_alloc | apply pw_below_drewN | apply below_drew1) | exact HB.out))) : w.heap.size ≤ gb217)); have n3_ := Aside0.mk ((by rw [hg]; exact (below_size (by repeat (first | (with_reducible first | exact HB.out | apply below_alloc | apply pw_below_drewN | apply below_drew1) | exact HB.out))) : w.heap.size ≤ gb217)); clear HB; have HB := n0_; have BK217 := n1_; have GW217 := n2_; have GE217 := n3_; clear n0_ n1_ n2_ n3_; clear hb hbox hg; have hcz17_0 : w16.cell? ⟨gb217, 0, none⟩ = some (.int .i64 0) := (blk_cell BK217.out 0).trans rfl; have hcz17_1 : w16.cell? ⟨gb217, 1, none⟩ = some (.int .i64 0) := (blk_cell BK217.out 1).trans rfl; have hfz17_0 := blk_frozen BK217.out 0; have hfz17_1 := blk_frozen BK217.out 1))
                    (try simp only [Act.put, List.setIfInBounds_toArray, List.set_cons_zero, List.set_cons_succ])
                    go_cut [38] (fun v38 wc => ∃ (kq : Nat) (x38_14 : Bool), v38 = .bool x38_14 ∧ Aside0 (axis_Gap.j2 kq a1 a2 x11_2 x12_2 l0 (l0.length : Int) x34_2 x38_14 ((rd_T97 l0 x34_2).f0) ((rd_T97 l0 x34_2).f1) = some (r1, r2)) ∧ Aside0 (kq ≤ k2) ∧ Aside0 (wc.heap[gb217]? = some (.cells #[.int .i64 ((rd_T97 l0 x34_2).f0), .int .i64 ((rd_T97 l0 x34_2).f1)] 97 (0, 0))) ∧ Aside0 (Below w.heap.size w wc))
                    case first =>
                      have H := HC15.out
                      clear HC15
                      by_cases c18 : ((rd_T97 l0 x34_2).f0) = 1
                      · rw [if_pos c18] at H
                        have c18b0 : (((rd_T97 l0 x34_2).f0) == 1) = true := beq_iff_eq.mpr c18
                        have c18b1 : (((rd_T97 l0 x34_2).f0) != 1) = false := bne_eq_false_iff_eq.mpr c18
                        clear c18
                        (first | rw [c18b0] | (simp only [i64_w, i32_w]; rw [c18b0]) | skip)
                        have H' := Aside0.mk H
                        clear H
                        have hcz19_0 : w16.cell? ⟨gb217, 0, none⟩ = some (.int .i64 0) := (blk_cell BK217.out 0).trans rfl
                        have hcz19_1 : w16.cell? ⟨gb217, 1, none⟩ = some (.int .i64 0) := (blk_cell BK217.out 1).trans rfl
                        have hfz19_0 := blk_frozen BK217.out 0
                        have hfz19_1 := blk_frozen BK217.out 1
                        go_wp2
                        go_meet
                        case rel => exact ⟨_, (decide (x11_2 < a1)), (by first | rfl | (simp; done) | (simp [*]; done)), H', ⟨by have := HJ6.out; have := HK2.out; first | omega | exact Nat.le_refl _⟩, ⟨by (with_reducible repeat (first | refine blk_drewN ?_ _ | refine blk_drew ?_ | refine blk_alloc ?_ _)); refine blk_put (cs := #[.int .i64 ((rd_T97 l0 x34_2).f0), .int .i64 0]) ?_ 1 _ rfl; (with_reducible repeat (first | refine blk_drewN ?_ _ | refine blk_drew ?_ | refine blk_alloc ?_ _)); refine blk_put (cs := #[.int .i64 0, .int .i64 0]) ?_ 0 _ rfl; (with_reducible repeat (first | refine blk_drewN ?_ _ | refine blk_drew ?_ | refine blk_alloc ?_ _)); exact BK217.out⟩, ⟨by repeat (first | (with_reducible first | exact HB.out | apply below_alloc | apply pw_below_drewN | apply below_drew1 | refine below_set ?_ GE217.out) | exact HB.out)⟩⟩
                      · rw [if_neg c18] at H
                        have c18b0 : (((rd_T97 l0 x34_2).f0) == 1) = false := beq_eq_false_iff_ne.mpr c18
                        have c18b1 : (((rd_T97 l0 x34_2).f0) != 1) = true := bne_iff_ne.mpr c18
                        (first | rw [c18b0] | (simp only [i64_w, i32_w]; rw [c18b0]) | skip)
                        have H' := Aside0.mk H
                        clear H
                        have hcz20_0 : w16.cell? ⟨gb217, 0, none⟩ = some (.int .i64 0) := (blk_cell BK217.out 0).trans rfl
                        have hcz20_1 : w16.cell? ⟨gb217, 1, none⟩ = some (.int .i64 0) := (blk_cell BK217.out 1).trans rfl
                        have hfz20_0 := blk_frozen BK217.out 0
                        have hfz20_1 := blk_frozen BK217.out 1
                        go_wp2
                        go_meet
                        case rel => exact ⟨_, (false), (by first | rfl | (simp; done) | (simp [*]; done)), H', ⟨by have := HJ6.out; have := HK2.out; first | omega | exact Nat.le_refl _⟩, ⟨by (with_reducible repeat (first | refine blk_drewN ?_ _ | refine blk_drew ?_ | refine blk_alloc ?_ _)); refine blk_put (cs := #[.int .i64 ((rd_T97 l0 x34_2).f0), .int .i64 0]) ?_ 1 _ rfl; (with_reducible repeat (first | refine blk_drewN ?_ _ | refine blk_drew ?_ | refine blk_alloc ?_ _)); refine blk_put (cs := #[.int .i64 0, .int .i64 0]) ?_ 0 _ rfl; (with_reducible repeat (first | refine blk_drewN ?_ _ | refine blk_drew ?_ | refine blk_alloc ?_ _)); exact BK217.out⟩, ⟨by repeat (first | (with_reducible first | exact HB.out | apply below_alloc | apply pw_below_drewN | apply below_drew1 | refine below_set ?_ GE217.out) | exact HB.out)⟩⟩
                    case rest =>
                      clear HC15
                      try clear c1
                      try clear p2
                      try clear q2
                      try clear hx2
                      try clear c4
                      try clear c5
                      try clear c5b0
                      try clear c5b1
                      try clear c7
                      try clear c10
                      try clear c10b0
                      try clear c11
                      try clear c12
                      try clear c12b0
                      try clear c13
                      try clear c13b0
                      try clear c14
                      try clear c14b0
                      try clear c18
                      try clear c18b0
                      try clear c18b1
                      try clear hcz17_0
                      try clear hcz17_1
                      try clear hcz19_0
                      try clear hcz19_1
                      try clear hcz20_0
                      try clear hcz20_1
                      try clear hfz17_0
                      try clear hfz17_1
                      try clear hfz19_0
                      try clear hfz19_1
                      try clear hfz20_0
                      try clear hfz20_1
                      try clear hx216_0
                      try clear hx216_1
                      try clear p2
                      try clear p216
                      try clear q216
                      obtain ⟨kq, x38_14, rfl, HA, HJ14, BK217, HB⟩ := hcut
                      cases kq with
                      | zero => exact absurd HA.out (by simp [axis_Gap.j2])
                      | succ kj14 =>
                        have H := HA.out
                        clear HA
                        simp only [axis_Gap.j2] at H
                        have HC21 := Aside0.mk H
                        clear H
                        go_upto_if 38 with (fail)
                        go_cut [38] (fun v38 wc => ∃ (kq : Nat) (x38_20 : Bool), v38 = .bool x38_20 ∧ Aside0 (axis_Gap.j3 kq a1 a2 x11_2 x12_2 l0 (l0.length : Int) x34_2 x38_20 ((rd_T97 l0 x34_2).f0) ((rd_T97 l0 x34_2).f1) = some (r1, r2)) ∧ Aside0 (kq ≤ kj14) ∧ Aside0 (wc.heap[gb217]? = some (.cells #[.int .i64 ((rd_T97 l0 x34_2).f0), .int .i64 ((rd_T97 l0 x34_2).f1)] 97 (0, 0))) ∧ Aside0 (Below w.heap.size w wc))
                        case first =>
                          have H := HC21.out
                          clear HC21
                          by_cases c22 : x38_14 = true
                          · subst c22
                            have H1 : (axis_Gap.j3 kj14 a1 a2 x11_2 x12_2 l0 (l0.length : Int) x34_2 true ((rd_T97 l0 x34_2).f0) ((rd_T97 l0 x34_2).f1)) = some (r1, r2) := by rw [if_pos rfl] at H; exact H
                            clear H
                            have H := H1
                            clear H1
                            have H' := Aside0.mk H
                            clear H
                            go_wp2
                            go_meet
                            case rel => exact ⟨_, (true), (by first | rfl | (simp; done) | (simp [*]; done)), H', ⟨by have := HJ6.out; have := HK2.out; have := HJ14.out; first | omega | exact Nat.le_refl _⟩, ⟨by (with_reducible repeat (first | refine blk_drewN ?_ _ | refine blk_drew ?_ | refine blk_alloc ?_ _)); exact BK217.out⟩, ⟨by repeat (first | (with_reducible first | exact HB.out | apply below_alloc | apply pw_below_drewN | apply below_drew1 | refine below_set ?_ GE217.out) | exact HB.out)⟩⟩
                          · replace c22 := Bool.eq_false_iff.mpr c22
                            subst c22
                            have H1 : (if ((rd_T97 l0 x34_2).f0) = 1 then (if x11_2 = a1 then (axis_Gap.j3 kj14 a1 a2 x11_2 x12_2 l0 (l0.length : Int) x34_2 a2 ((rd_T97 l0 x34_2).f0) ((rd_T97 l0 x34_2).f1)) else (axis_Gap.j3 kj14 a1 a2 x11_2 x12_2 l0 (l0.length : Int) x34_2 false ((rd_T97 l0 x34_2).f0) ((rd_T97 l0 x34_2).f1))) else (axis_Gap.j3 kj14 a1 a2 x11_2 x12_2 l0 (l0.length : Int) x34_2 false ((rd_T97 l0 x34_2).f0) ((rd_T97 l0 x34_2).f1))) = some (r1, r2) := by rw [if_neg (show ¬ (false = true) by decide)] at H; exact H
                            clear H
                            have H := H1
                            clear H1
                            by_cases c23 : ((rd_T97 l0 x34_2).f0) = 1
                            · rw [if_pos c23] at H
                              have c23b0 : (((rd_T97 l0 x34_2).f0) == 1) = true := beq_iff_eq.mpr c23
                              have c23b1 : (((rd_T97 l0 x34_2).f0) != 1) = false := bne_eq_false_iff_eq.mpr c23
                              clear c23
                              (first | rw [c23b0] | (simp only [i64_w, i32_w]; rw [c23b0]) | skip)
                              by_cases c24 : x11_2 = a1
                              · rw [if_pos c24] at H
                                have c24b0 : (x11_2 == a1) = true := beq_iff_eq.mpr c24
                                have c24b1 : (x11_2 != a1) = false := bne_eq_false_iff_eq.mpr c24
                                clear c24
                                have H' := Aside0.mk H
                                clear H
                                have hcz25_0 : wc.cell? ⟨gb217, 0, none⟩ = some (.int .i64 ((rd_T97 l0 x34_2).f0)) := (blk_cell BK217.out 0).trans rfl
                                have hcz25_1 : wc.cell? ⟨gb217, 1, none⟩ = some (.int .i64 ((rd_T97 l0 x34_2).f1)) := (blk_cell BK217.out 1).trans rfl
                                have hfz25_0 := blk_frozen BK217.out 0
                                have hfz25_1 := blk_frozen BK217.out 1
                                go_wp2
                                go_meet
                                case rel => exact ⟨_, (a2), (by first | rfl | (simp; done) | (simp [*]; done)), H', ⟨by have := HJ6.out; have := HK2.out; have := HJ14.out; first | omega | exact Nat.le_refl _⟩, ⟨by (with_reducible repeat (first | refine blk_drewN ?_ _ | refine blk_drew ?_ | refine blk_alloc ?_ _)); exact BK217.out⟩, ⟨by repeat (first | (with_reducible first | exact HB.out | apply below_alloc | apply pw_below_drewN | apply below_drew1 | refine below_set ?_ GE217.out) | exact HB.out)⟩⟩
                              · rw [if_neg c24] at H
                                have c24b0 : (x11_2 == a1) = false := beq_eq_false_iff_ne.mpr c24
                                have c24b1 : (x11_2 != a1) = true := bne_iff_ne.mpr c24
                                have H' := Aside0.mk H
                                clear H
                                have hcz26_0 : wc.cell? ⟨gb217, 0, none⟩ = some (.int .i64 ((rd_T97 l0 x34_2).f0)) := (blk_cell BK217.out 0).trans rfl
                                have hcz26_1 : wc.cell? ⟨gb217, 1, none⟩ = some (.int .i64 ((rd_T97 l0 x34_2).f1)) := (blk_cell BK217.out 1).trans rfl
                                have hfz26_0 := blk_frozen BK217.out 0
                                have hfz26_1 := blk_frozen BK217.out 1
                                go_wp2
                                go_meet
                                case rel => exact ⟨_, (false), (by first | rfl | (simp; done) | (simp [*]; done)), H', ⟨by have := HJ6.out; have := HK2.out; have := HJ14.out; first | omega | exact Nat.le_refl _⟩, ⟨by (with_reducible repeat (first | refine blk_drewN ?_ _ | refine blk_drew ?_ | refine blk_alloc ?_ _)); exact BK217.out⟩, ⟨by repeat (first | (with_reducible first | exact HB.out | apply below_alloc | apply pw_below_drewN | apply below_drew1 | refine below_set ?_ GE217.out) | exact HB.out)⟩⟩
                            · rw [if_neg c23] at H
                              have c23b0 : (((rd_T97 l0 x34_2).f0) == 1) = false := beq_eq_false_iff_ne.mpr c23
                              have c23b1 : (((rd_T97 l0 x34_2).f0) != 1) = true := bne_iff_ne.mpr c23
                              (first | rw [c23b0] | (simp only [i64_w, i32_w]; rw [c23b0]) | skip)
                              have H' := Aside0.mk H
                              clear H
                              have hcz27_0 : wc.cell? ⟨gb217, 0, none⟩ = some (.int .i64 ((rd_T97 l0 x34_2).f0)) := (blk_cell BK217.out 0).trans rfl
                              have hcz27_1 : wc.cell? ⟨gb217, 1, none⟩ = some (.int .i64 ((rd_T97 l0 x34_2).f1)) := (blk_cell BK217.out 1).trans rfl
                              have hfz27_0 := blk_frozen BK217.out 0
                              have hfz27_1 := blk_frozen BK217.out 1
                              go_wp2
                              go_meet
                              case rel => exact ⟨_, (false), (by first | rfl | (simp; done) | (simp [*]; done)), H', ⟨by have := HJ6.out; have := HK2.out; have := HJ14.out; first | omega | exact Nat.le_refl _⟩, ⟨by (with_reducible repeat (first | refine blk_drewN ?_ _ | refine blk_drew ?_ | refine blk_alloc ?_ _)); exact BK217.out⟩, ⟨by repeat (first | (with_reducible first | exact HB.out | apply below_alloc | apply pw_below_drewN | apply below_drew1 | refine below_set ?_ GE217.out) | exact HB.out)⟩⟩
                        case rest =>
                          clear HC21
                          try clear c1
                          try clear c2
                          try clear p2
                          try clear q2
                          try clear hx2
                          try clear c4
                          try clear c5
                          try clear c5b0
                          try clear c5b1
                          try clear c7
                          try clear c10
                          try clear c10b0
                          try clear c11
                          try clear c12
                          try clear c12b0
                          try clear c13
                          try clear c13b0
                          try clear c14
                          try clear c14b0
                          try clear c18
                          try clear c18b0
                          try clear c18b1
                          try clear p21
                          try clear q21
                          try clear hx21
                          try clear c22
                          try clear c23
                          try clear c23b0
                          try clear c23b1
                          try clear c24
                          try clear c24b0
                          try clear c24b1
                          try clear hcz17_0
                          try clear hcz17_1
                          try clear hcz19_0
                          try clear hcz19_1
                          try clear hcz20_0
                          try clear hcz20_1
                          try clear hcz25_0
                          try clear hcz25_1
                          try clear hcz26_0
                          try clear hcz26_1
                          try clear hcz27_0
                          try clear hcz27_1
                          try clear hfz17_0
                          try clear hfz17_1
                          try clear hfz19_0
                          try clear hfz19_1
                          try clear hfz20_0
                          try clear hfz20_1
                          try clear hfz25_0
                          try clear hfz25_1
                          try clear hfz26_0
                          try clear hfz26_1
                          try clear hfz27_0
                          try clear hfz27_1
                          try clear hx216_0
                          try clear hx216_1
                          try clear p2
                          try clear p216
                          try clear q2
                          try clear q216
                          obtain ⟨kq, x38_20, rfl, HA, HJ20, BK217, HB⟩ := hcut
                          cases kq with
                          | zero => exact absurd HA.out (by simp [axis_Gap.j3])
                          | succ kj20 =>
                            have H := HA.out
                            clear HA
                            simp only [axis_Gap.j3] at H
                            by_cases c28 : x38_20 = true
                            · subst c28
                              have H1 : (if ((rd_T97 l0 x34_2).f0) = 1 then (axis_Gap.l0 kj20 a1 a2 x11_2 (wrap64 (x12_2 + ((rd_T97 l0 x34_2).f1))) l0 (l0.length : Int) (wrap64 (x34_2 + 1))) else (axis_Gap.l0 kj20 a1 a2 (wrap64 (x11_2 + ((rd_T97 l0 x34_2).f1))) (wrap64 (x12_2 + ((rd_T97 l0 x34_2).f1))) l0 (l0.length : Int) (wrap64 (x34_2 + 1)))) = some (r1, r2) := by rw [if_pos rfl] at H; exact H
                              clear H
                              have H := H1
                              clear H1
                              by_cases c29 : ((rd_T97 l0 x34_2).f0) = 1
                              · rw [if_pos c29] at H
                                have c29b0 : (((rd_T97 l0 x34_2).f0) == 1) = true := beq_iff_eq.mpr c29
                                have c29b1 : (((rd_T97 l0 x34_2).f0) != 1) = false := bne_eq_false_iff_eq.mpr c29
                                clear c29
                                have H' := Aside0.mk H
                                clear H
                                have hcz30_0 : wc.cell? ⟨gb217, 0, none⟩ = some (.int .i64 ((rd_T97 l0 x34_2).f0)) := (blk_cell BK217.out 0).trans rfl
                                have hcz30_1 : wc.cell? ⟨gb217, 1, none⟩ = some (.int .i64 ((rd_T97 l0 x34_2).f1)) := (blk_cell BK217.out 1).trans rfl
                                have hfz30_0 := blk_frozen BK217.out 0
                                have hfz30_1 := blk_frozen BK217.out 1
                                go_wp2
                                go_roundg kj20
                                case measure => have := HJ6.out; have := HK2.out; have := HJ14.out; have := HJ20.out; omega
                                case rel => exact ⟨(x11_2), (wrap64 (x12_2 + ((rd_T97 l0 x34_2).f1))), (wrap64 (x34_2 + 1)), (by first | rfl | (simp; done) | (simp [*]; done)), (by first | rfl | (simp; done) | (simp [*]; done)), (by first | rfl | (simp; done) | (simp [*]; done)), H', ⟨by have := HJ6.out; have := HK2.out; have := HJ14.out; have := HJ20.out; omega⟩, ⟨by repeat (first | (with_reducible first | exact HB.out | apply below_alloc | apply pw_below_drewN | apply below_drew1 | refine below_set ?_ GE217.out) | exact HB.out)⟩⟩
                              · rw [if_neg c29] at H
                                have c29b0 : (((rd_T97 l0 x34_2).f0) == 1) = false := beq_eq_false_iff_ne.mpr c29
                                have c29b1 : (((rd_T97 l0 x34_2).f0) != 1) = true := bne_iff_ne.mpr c29
                                have H' := Aside0.mk H
                                clear H
                                have hcz31_0 : wc.cell? ⟨gb217, 0, none⟩ = some (.int .i64 ((rd_T97 l0 x34_2).f0)) := (blk_cell BK217.out 0).trans rfl
                                have hcz31_1 : wc.cell? ⟨gb217, 1, none⟩ = some (.int .i64 ((rd_T97 l0 x34_2).f1)) := (blk_cell BK217.out 1).trans rfl
                                have hfz31_0 := blk_frozen BK217.out 0
                                have hfz31_1 := blk_frozen BK217.out 1
                                go_wp2
                                go_roundg kj20
                                case measure => have := HJ6.out; have := HK2.out; have := HJ14.out; have := HJ20.out; omega
                                case rel => exact ⟨(wrap64 (x11_2 + ((rd_T97 l0 x34_2).f1))), (wrap64 (x12_2 + ((rd_T97 l0 x34_2).f1))), (wrap64 (x34_2 + 1)), (by first | rfl | (simp; done) | (simp [*]; done)), (by first | rfl | (simp; done) | (simp [*]; done)), (by first | rfl | (simp; done) | (simp [*]; done)), H', ⟨by have := HJ6.out; have := HK2.out; have := HJ14.out; have := HJ20.out; omega⟩, ⟨by repeat (first | (with_reducible first | exact HB.out | apply below_alloc | apply pw_below_drewN | apply below_drew1 | refine below_set ?_ GE217.out) | exact HB.out)⟩⟩
                            · replace c28 := Bool.eq_false_iff.mpr c28
                              subst c28
                              have H1 : (if ((rd_T97 l0 x34_2).f0) = 0 then (if ((rd_T97 l0 x34_2).f0) = 1 then (axis_Gap.l0 kj20 a1 a2 x11_2 (wrap64 (x12_2 + (mn ((rd_T97 l0 x34_2).f1) (mx 0 (wrap64 (a1 - x11_2)))))) l0 (l0.length : Int) (wrap64 (x34_2 + 1))) else (axis_Gap.l0 kj20 a1 a2 (wrap64 (x11_2 + ((rd_T97 l0 x34_2).f1))) (wrap64 (x12_2 + (mn ((rd_T97 l0 x34_2).f1) (mx 0 (wrap64 (a1 - x11_2)))))) l0 (l0.length : Int) (wrap64 (x34_2 + 1)))) else (if ((rd_T97 l0 x34_2).f0) = 1 then (axis_Gap.l0 kj20 a1 a2 x11_2 x12_2 l0 (l0.length : Int) (wrap64 (x34_2 + 1))) else (axis_Gap.l0 kj20 a1 a2 (wrap64 (x11_2 + ((rd_T97 l0 x34_2).f1))) x12_2 l0 (l0.length : Int) (wrap64 (x34_2 + 1))))) = some (r1, r2) := by rw [if_neg (show ¬ (false = true) by decide)] at H; exact H
                              clear H
                              have H := H1
                              clear H1
                              by_cases c32 : ((rd_T97 l0 x34_2).f0) = 0
                              · rw [if_pos c32] at H
                                have c32b0 : (((rd_T97 l0 x34_2).f0) == 0) = true := beq_iff_eq.mpr c32
                                have c32b1 : (((rd_T97 l0 x34_2).f0) != 0) = false := bne_eq_false_iff_eq.mpr c32
                                clear c32
                                obtain ⟨ji33, hji33⟩ : ∃ j_ : Int, (mx 0 (wrap64 (a1 - x11_2))) = j_ := ⟨_, rfl⟩
                                replace H : (if ((rd_T97 l0 x34_2).f0) = 1 then (axis_Gap.l0 kj20 a1 a2 x11_2 (wrap64 (x12_2 + (mn ((rd_T97 l0 x34_2).f1) (ji33)))) l0 (l0.length : Int) (wrap64 (x34_2 + 1))) else (axis_Gap.l0 kj20 a1 a2 (wrap64 (x11_2 + ((rd_T97 l0 x34_2).f1))) (wrap64 (x12_2 + (mn ((rd_T97 l0 x34_2).f1) (ji33)))) l0 (l0.length : Int) (wrap64 (x34_2 + 1)))) = some (r1, r2) := by first | (rw [hji33] at H; exact H) | (simp only [hji33] at H ⊢; exact H)
                                have hji33_ : (if 0 < (wrap64 (a1 - x11_2)) then (wrap64 (a1 - x11_2)) else 0) = ji33 := hji33
                                obtain ⟨ji34, hji34⟩ : ∃ j_ : Int, (mn ((rd_T97 l0 x34_2).f1) (ji33)) = j_ := ⟨_, rfl⟩
                                replace H : (if ((rd_T97 l0 x34_2).f0) = 1 then (axis_Gap.l0 kj20 a1 a2 x11_2 (wrap64 (x12_2 + (ji34))) l0 (l0.length : Int) (wrap64 (x34_2 + 1))) else (axis_Gap.l0 kj20 a1 a2 (wrap64 (x11_2 + ((rd_T97 l0 x34_2).f1))) (wrap64 (x12_2 + (ji34))) l0 (l0.length : Int) (wrap64 (x34_2 + 1)))) = some (r1, r2) := by first | (rw [hji34] at H; exact H) | (simp only [hji34] at H ⊢; exact H)
                                have hji34_ : (if (ji33) < ((rd_T97 l0 x34_2).f1) then (ji33) else ((rd_T97 l0 x34_2).f1)) = ji34 := hji34
                                by_cases c35 : ((rd_T97 l0 x34_2).f0) = 1
                                · rw [if_pos c35] at H
                                  have c35b0 : (((rd_T97 l0 x34_2).f0) == 1) = true := beq_iff_eq.mpr c35
                                  have c35b1 : (((rd_T97 l0 x34_2).f0) != 1) = false := bne_eq_false_iff_eq.mpr c35
                                  clear c35
                                  have H' := Aside0.mk H
                                  clear H
                                  have hcz36_0 : wc.cell? ⟨gb217, 0, none⟩ = some (.int .i64 ((rd_T97 l0 x34_2).f0)) := (blk_cell BK217.out 0).trans rfl
                                  have hcz36_1 : wc.cell? ⟨gb217, 1, none⟩ = some (.int .i64 ((rd_T97 l0 x34_2).f1)) := (blk_cell BK217.out 1).trans rfl
                                  have hfz36_0 := blk_frozen BK217.out 0
                                  have hfz36_1 := blk_frozen BK217.out 1
                                  go_wp2
                                  go_roundg kj20
                                  case measure => have := HJ6.out; have := HK2.out; have := HJ14.out; have := HJ20.out; omega
                                  case rel => exact ⟨(x11_2), (wrap64 (x12_2 + (ji34))), (wrap64 (x34_2 + 1)), (by first | rfl | (simp; done) | (simp [*]; done)), (by first | rfl | (simp; done) | (simp only [← hji34] <;> (first | rfl | simp)) | (simp [*]; done)), (by first | rfl | (simp; done) | (simp [*]; done)), H', ⟨by have := HJ6.out; have := HK2.out; have := HJ14.out; have := HJ20.out; omega⟩, ⟨by repeat (first | (with_reducible first | exact HB.out | apply below_alloc | apply pw_below_drewN | apply below_drew1 | refine below_set ?_ GE217.out) | exact HB.out)⟩⟩
                                · rw [if_neg c35] at H
                                  have c35b0 : (((rd_T97 l0 x34_2).f0) == 1) = false := beq_eq_false_iff_ne.mpr c35
                                  have c35b1 : (((rd_T97 l0 x34_2).f0) != 1) = true := bne_iff_ne.mpr c35
                                  have H' := Aside0.mk H
                                  clear H
                                  have hcz37_0 : wc.cell? ⟨gb217, 0, none⟩ = some (.int .i64 ((rd_T97 l0 x34_2).f0)) := (blk_cell BK217.out 0).trans rfl
                                  have hcz37_1 : wc.cell? ⟨gb217, 1, none⟩ = some (.int .i64 ((rd_T97 l0 x34_2).f1)) := (blk_cell BK217.out 1).trans rfl
                                  have hfz37_0 := blk_frozen BK217.out 0
                                  have hfz37_1 := blk_frozen BK217.out 1
                                  go_wp2
                                  go_roundg kj20
                                  case measure => have := HJ6.out; have := HK2.out; have := HJ14.out; have := HJ20.out; omega
                                  case rel => exact ⟨(wrap64 (x11_2 + ((rd_T97 l0 x34_2).f1))), (wrap64 (x12_2 + (ji34))), (wrap64 (x34_2 + 1)), (by first | rfl | (simp; done) | (simp [*]; done)), (by first | rfl | (simp; done) | (simp only [← hji34] <;> (first | rfl | simp)) | (simp [*]; done)), (by first | rfl | (simp; done) | (simp [*]; done)), H', ⟨by have := HJ6.out; have := HK2.out; have := HJ14.out; have := HJ20.out; omega⟩, ⟨by repeat (first | (with_reducible first | exact HB.out | apply below_alloc | apply pw_below_drewN | apply below_drew1 | refine below_set ?_ GE217.out) | exact HB.out)⟩⟩
                              · rw [if_neg c32] at H
                                have c32b0 : (((rd_T97 l0 x34_2).f0) == 0) = false := beq_eq_false_iff_ne.mpr c32
                                have c32b1 : (((rd_T97 l0 x34_2).f0) != 0) = true := bne_iff_ne.mpr c32
                                by_cases c38 : ((rd_T97 l0 x34_2).f0) = 1
                                · rw [if_pos c38] at H
                                  have c38b0 : (((rd_T97 l0 x34_2).f0) == 1) = true := beq_iff_eq.mpr c38
                                  have c38b1 : (((rd_T97 l0 x34_2).f0) != 1) = false := bne_eq_false_iff_eq.mpr c38
                                  clear c38
                                  have H' := Aside0.mk H
                                  clear H
                                  have hcz39_0 : wc.cell? ⟨gb217, 0, none⟩ = some (.int .i64 ((rd_T97 l0 x34_2).f0)) := (blk_cell BK217.out 0).trans rfl
                                  have hcz39_1 : wc.cell? ⟨gb217, 1, none⟩ = some (.int .i64 ((rd_T97 l0 x34_2).f1)) := (blk_cell BK217.out 1).trans rfl
                                  have hfz39_0 := blk_frozen BK217.out 0
                                  have hfz39_1 := blk_frozen BK217.out 1
                                  go_wp2
                                  go_roundg kj20
                                  case measure => have := HJ6.out; have := HK2.out; have := HJ14.out; have := HJ20.out; omega
                                  case rel => exact ⟨(x11_2), (x12_2), (wrap64 (x34_2 + 1)), (by first | rfl | (simp; done) | (simp [*]; done)), (by first | rfl | (simp; done) | (simp [*]; done)), (by first | rfl | (simp; done) | (simp [*]; done)), H', ⟨by have := HJ6.out; have := HK2.out; have := HJ14.out; have := HJ20.out; omega⟩, ⟨by repeat (first | (with_reducible first | exact HB.out | apply below_alloc | apply pw_below_drewN | apply below_drew1 | refine below_set ?_ GE217.out) | exact HB.out)⟩⟩
                                · rw [if_neg c38] at H
                                  have c38b0 : (((rd_T97 l0 x34_2).f0) == 1) = false := beq_eq_false_iff_ne.mpr c38
                                  have c38b1 : (((rd_T97 l0 x34_2).f0) != 1) = true := bne_iff_ne.mpr c38
                                  have H' := Aside0.mk H
                                  clear H
                                  have hcz40_0 : wc.cell? ⟨gb217, 0, none⟩ = some (.int .i64 ((rd_T97 l0 x34_2).f0)) := (blk_cell BK217.out 0).trans rfl
                                  have hcz40_1 : wc.cell? ⟨gb217, 1, none⟩ = some (.int .i64 ((rd_T97 l0 x34_2).f1)) := (blk_cell BK217.out 1).trans rfl
                                  have hfz40_0 := blk_frozen BK217.out 0
                                  have hfz40_1 := blk_frozen BK217.out 1
                                  go_wp2
                                  go_roundg kj20
                                  case measure => have := HJ6.out; have := HK2.out; have := HJ14.out; have := HJ20.out; omega
                                  case rel => exact ⟨(wrap64 (x11_2 + ((rd_T97 l0 x34_2).f1))), (x12_2), (wrap64 (x34_2 + 1)), (by first | rfl | (simp; done) | (simp [*]; done)), (by first | rfl | (simp; done) | (simp [*]; done)), (by first | rfl | (simp; done) | (simp [*]; done)), H', ⟨by have := HJ6.out; have := HK2.out; have := HJ14.out; have := HJ20.out; omega⟩, ⟨by repeat (first | (with_reducible first | exact HB.out | apply below_alloc | apply pw_below_drewN | apply below_drew1 | refine below_set ?_ GE217.out) | exact HB.out)⟩⟩
                  · rw [if_neg c14] at H
                    exact absurd H (by simp)
                · rw [if_neg c13] at H
                  exact absurd H (by simp)
              · rw [if_neg c12] at H
                have c12b0 : decide (x34_2 < (l0.length : Int)) = false := decide_eq_false c12
                clear c12
                simp only [Option.some.injEq, Prod.mk.injEq] at H
                obtain ⟨rfl, rfl⟩ := H
                go_wp2
                go_ret2
                exact ⟨by first | rfl | (simp [errW_none, errW_some] <;> rfl) | (simp [*, errW_none, errW_some] <;> rfl), by repeat (first | (with_reducible first | exact HB.out | apply below_alloc | apply pw_below_drewN | apply below_drew1) | exact HB.out)⟩
  · rw [if_neg c5] at H
    have c5b0 : (t213 == 0) = false := beq_eq_false_iff_ne.mpr c5
    have c5b1 : (t213 != 0) = true := bne_iff_ne.mpr c5
    simp only [Option.some.injEq, Prod.mk.injEq] at H
    obtain ⟨rfl, rfl⟩ := H
    go_enter Try.func40, Try.ntmps40
    go_wp2_with (first | ((with_reducible refine gate_callee (f := 72) rfl ?_); refine goesL_ (some 16) rfl rfl Try.func72 (by kernel_rfl) rfl #[.slice A0 l0.length c0] rfl (by (try simp only [List.map_toArray, List.map_cons, List.map_nil]); first | done | rfl | (simp only [List.length_drop, List.length_take]; rfl)) ?_; (with_reducible refine (axis_Check.calls k _ _ l0 t213 _ ?side1 ?side2 A4.out).mono ?_); (case side1 => repeat (first | exact HR0.out | (with_reducible refine Kd.C_alloc ?_ _) | (with_reducible refine Kd.C_drewN ?_ _) | (with_reducible refine Kd.C_drew ?_))); (case side2 => exact HC0.out); rintro e w41 ⟨rfl, hb⟩; refine ⟨_, rfl, ?_⟩; have n0_ := Aside0.mk (below_step (by repeat (first | (with_reducible first | exact HB.out | apply below_alloc | apply pw_below_drewN | apply below_drew1) | exact HB.out)) hb); clear HB; have HB := n0_; clear n0_; (try clear hb); (try clear hb2); (try clear hk); (try clear hi)))
    go_ret2
    exact ⟨by first | rfl | (simp [errW_none, errW_some] <;> rfl) | (simp [*, errW_none, errW_some] <;> rfl), by repeat (first | (with_reducible first | exact HB.out | apply below_alloc | apply pw_below_drewN | apply below_drew1) | exact HB.out)⟩

end Go.Proofs.Ytdgemabmmomebaa.PAxis

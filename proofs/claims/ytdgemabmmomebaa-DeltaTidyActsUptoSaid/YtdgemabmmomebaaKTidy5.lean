/- Parts of the proof of Tidy: nothing is claimed here by itself. -/
import Derived.Test.YtdgemabmmomebaaKTidy4
import Derived.StillTailTactics
set_option linter.unusedVariables false
set_option linter.unusedSimpArgs false
section
namespace Go.Proofs.Ytdgemabmmomebaa.PDelta
open Go.RowKit Go.Proofs.YtdgemabmmomebaaW.PrintWords Go.Proofs.YtdgemabmmomebaaW.PrintLast Go.Proofs.YtdgemabmmomebaaW.PrintMore
attribute [local go_sem] max2_int min2_int max_two min_two max_three min_three max_four min_four
attribute [local go_sem high] Go.Proofs.Ytdgemabmmomebaa.Ord.leq_str Go.Proofs.Ytdgemabmmomebaa.Ord.gtr_str Go.Proofs.Ytdgemabmmomebaa.Ord.geq_str
mutual
def chanceryref1_DeltaError.l0 : Nat → List (S70) → Int → Int → Int → Int → Option (Int)
  | 0, _, _, _, _, _ => none
  | k + 1, x0, x3, x4, x10, x11 => if x11 < x10 then (if 0 ≤ x11 then (if x11 < (x0.length : Int) then ((chanceryref1_StepError.f k ((rd_T70 x0 x11).f0) ((rd_T70 x0 x11).f1) ((rd_T70 x0 x11).f2) ((rd_T70 x0 x11).f3)).bind fun t297 => (if t297 = 0 then (if x11 > 0 then (if 0 ≤ (wrap64 (x11 - 1)) then (if (wrap64 (x11 - 1)) < (x0.length : Int) then (if ((rd_T70 x0 x11).f0) = 1 then (if ((rd_T70 x0 (wrap64 (x11 - 1))).f0) = 0 then (chanceryref1_DeltaError.j1 k x0 x3 x4 x10 x11 ((rd_T70 x0 x11).f0) ((rd_T70 x0 x11).f1) ((rd_T70 x0 x11).f2) ((rd_T70 x0 x11).f3)) else (some 5)) else (if ((rd_T70 x0 x11).f0) = 2 then (if ((rd_T70 x0 (wrap64 (x11 - 1))).f0) = 2 then (some 5) else (chanceryref1_DeltaError.j1 k x0 x3 x4 x10 x11 ((rd_T70 x0 x11).f0) ((rd_T70 x0 x11).f1) ((rd_T70 x0 x11).f2) ((rd_T70 x0 x11).f3))) else (if ((rd_T70 x0 (wrap64 (x11 - 1))).f0) = 0 then ((chanceryref1_SameAttrs.f k ((rd_T70 x0 (wrap64 (x11 - 1))).f2) ((rd_T70 x0 x11).f2)).bind fun t300 => (if t300 = true then (some 5) else (chanceryref1_DeltaError.j1 k x0 x3 x4 x10 x11 ((rd_T70 x0 x11).f0) ((rd_T70 x0 x11).f1) ((rd_T70 x0 x11).f2) ((rd_T70 x0 x11).f3)))) else (chanceryref1_DeltaError.j1 k x0 x3 x4 x10 x11 ((rd_T70 x0 x11).f0) ((rd_T70 x0 x11).f1) ((rd_T70 x0 x11).f2) ((rd_T70 x0 x11).f3))))) else (none)) else (none)) else (chanceryref1_DeltaError.j1 k x0 x3 x4 x10 x11 ((rd_T70 x0 x11).f0) ((rd_T70 x0 x11).f1) ((rd_T70 x0 x11).f2) ((rd_T70 x0 x11).f3))) else (some t297))) else (none)) else (none)) else (if x3 > 2147483647 then (some 3) else (if x4 > 2147483647 then (some 3) else (some 0)))
def chanceryref1_DeltaError.j1 : Nat → List (S70) → Int → Int → Int → Int → Int → Int → List (S38) → List (S84) → Option (Int)
  | 0, _, _, _, _, _, _, _, _, _ => none
  | k + 1, x0, x3, x4, x10, x11, x297000, x297001, x297002, x297003 => if x297000 = 1 then (chanceryref1_DeltaError.j2 k x0 x3 x4 x10 x11 false x297000 x297001 x297002 x297003) else (chanceryref1_DeltaError.j2 k x0 x3 x4 x10 x11 (decide (x3 < 2147483648)) x297000 x297001 x297002 x297003)
def chanceryref1_DeltaError.j2 : Nat → List (S70) → Int → Int → Int → Int → Bool → Int → Int → List (S38) → List (S84) → Option (Int)
  | 0, _, _, _, _, _, _, _, _, _, _ => none
  | k + 1, x0, x3, x4, x10, x11, x58, x297000, x297001, x297002, x297003 => if x58 = true then (if x297000 = 2 then (chanceryref1_DeltaError.l0 k x0 (wrap64 (x3 + x297001)) x4 x10 (wrap64 (x11 + 1))) else (if x4 < 2147483648 then (chanceryref1_DeltaError.l0 k x0 (wrap64 (x3 + x297001)) (wrap64 (x4 + (wrap64 (x297001 + (x297003.length : Int))))) x10 (wrap64 (x11 + 1))) else (chanceryref1_DeltaError.l0 k x0 (wrap64 (x3 + x297001)) x4 x10 (wrap64 (x11 + 1))))) else (if x297000 = 2 then (chanceryref1_DeltaError.l0 k x0 x3 x4 x10 (wrap64 (x11 + 1))) else (if x4 < 2147483648 then (chanceryref1_DeltaError.l0 k x0 x3 (wrap64 (x4 + (wrap64 (x297001 + (x297003.length : Int))))) x10 (wrap64 (x11 + 1))) else (chanceryref1_DeltaError.l0 k x0 x3 x4 x10 (wrap64 (x11 + 1)))))
end
def chanceryref1_DeltaError.f (k : Nat) (l0 : List (S70)) : Option (Int) := chanceryref1_DeltaError.l0 k l0 0 0 (l0.length : Int) 0
set_option maxHeartbeats 8000000 in
set_option maxRecDepth 100000 in
theorem chanceryref1_DeltaError.calls (k : Nat) (A0 : Option Addr) (c0 : Nat) (l0 : List (S70)) (r : Int) (w : World) (hr0 : Kd.C k70 w A0 l0.length l0) (hc0 : l0.length ≤ c0) (h : chanceryref1_DeltaError.f k l0 = some r) :
    Calls Try.prog 46 #[.slice A0 l0.length c0] w fun e w' => e = .returned (.int .i64 r) ∧ Below w.heap.size w w' := by
  have hu70 := Try.underlying70
  have HR0 := Aside0.mk hr0
  have HC0 := Aside0.mk hc0
  clear hr0 hc0
  have HB := Aside0.mk (Below.refl w.heap.size w)
  have H : (chanceryref1_DeltaError.l0 k l0 0 0 (l0.length : Int) 0) = some r := h
  clear h
  have H' := Aside0.mk H
  clear H
  go_enter Try.func46, Try.ntmps46
  go_wp2
  go_loopg [3, 4, 11] k (fun kq v3 v4 v11 w' => ∃ (x3_1 : Int) (x4_1 : Int) (x11_1 : Int), v3 = .int .i64 x3_1 ∧ v4 = .int .i64 x4_1 ∧ v11 = .int .i64 x11_1 ∧ Aside0 (chanceryref1_DeltaError.l0 kq l0 x3_1 x4_1 (l0.length : Int) x11_1 = some r) ∧ Aside0 (kq ≤ k) ∧ Aside0 (Below w.heap.size w w'))
  case atStart => exact ⟨(0), (0), (0), (by first | rfl | (simp; done) | (simp [*]; done)), (by first | rfl | (simp; done) | (simp [*]; done)), (by first | rfl | (simp; done) | (simp [*]; done)), H', ⟨Nat.le_refl _⟩, ⟨by repeat (first | (with_reducible first | exact HB.out | apply below_alloc | apply pw_below_drewN | apply below_drew1) | exact HB.out)⟩⟩
  case round =>
    clear H'
    obtain ⟨x3_1, x4_1, x11_1, rfl, rfl, rfl, HA, HK1, HB⟩ := hrel
    cases gk with
    | zero => exact absurd HA.out (by simp [chanceryref1_DeltaError.l0])
    | succ k1 =>
      have H := HA.out
      clear HA
      simp only [chanceryref1_DeltaError.l0] at H
      by_cases c2 : x11_1 < (l0.length : Int)
      · rw [if_pos c2] at H
        have c2b0 : decide (x11_1 < (l0.length : Int)) = true := decide_eq_true c2
        clear c2
        by_cases c3 : 0 ≤ x11_1
        · rw [if_pos c3] at H
          have c3b0 : decide (0 ≤ x11_1) = true := decide_eq_true c3
          clear c3
          by_cases c4 : x11_1 < (l0.length : Int)
          · rw [if_pos c4] at H
            have c4b0 : decide (x11_1 < (l0.length : Int)) = true := decide_eq_true c4
            clear c4
            replace H := Option.bind_eq_some_iff.mp H
            obtain ⟨t297, A50, H⟩ := H
            replace H : (if t297 = 0 then (if x11_1 > 0 then (if 0 ≤ (wrap64 (x11_1 - 1)) then (if (wrap64 (x11_1 - 1)) < (l0.length : Int) then (if ((rd_T70 l0 x11_1).f0) = 1 then (if ((rd_T70 l0 (wrap64 (x11_1 - 1))).f0) = 0 then (chanceryref1_DeltaError.j1 k1 l0 x3_1 x4_1 (l0.length : Int) x11_1 ((rd_T70 l0 x11_1).f0) ((rd_T70 l0 x11_1).f1) ((rd_T70 l0 x11_1).f2) ((rd_T70 l0 x11_1).f3)) else (some 5)) else (if ((rd_T70 l0 x11_1).f0) = 2 then (if ((rd_T70 l0 (wrap64 (x11_1 - 1))).f0) = 2 then (some 5) else (chanceryref1_DeltaError.j1 k1 l0 x3_1 x4_1 (l0.length : Int) x11_1 ((rd_T70 l0 x11_1).f0) ((rd_T70 l0 x11_1).f1) ((rd_T70 l0 x11_1).f2) ((rd_T70 l0 x11_1).f3))) else (if ((rd_T70 l0 (wrap64 (x11_1 - 1))).f0) = 0 then ((chanceryref1_SameAttrs.f k1 ((rd_T70 l0 (wrap64 (x11_1 - 1))).f2) ((rd_T70 l0 x11_1).f2)).bind fun t300 => (if t300 = true then (some 5) else (chanceryref1_DeltaError.j1 k1 l0 x3_1 x4_1 (l0.length : Int) x11_1 ((rd_T70 l0 x11_1).f0) ((rd_T70 l0 x11_1).f1) ((rd_T70 l0 x11_1).f2) ((rd_T70 l0 x11_1).f3)))) else (chanceryref1_DeltaError.j1 k1 l0 x3_1 x4_1 (l0.length : Int) x11_1 ((rd_T70 l0 x11_1).f0) ((rd_T70 l0 x11_1).f1) ((rd_T70 l0 x11_1).f2) ((rd_T70 l0 x11_1).f3))))) else (none)) else (none)) else (chanceryref1_DeltaError.j1 k1 l0 x3_1 x4_1 (l0.length : Int) x11_1 ((rd_T70 l0 x11_1).f0) ((rd_T70 l0 x11_1).f1) ((rd_T70 l0 x11_1).f2) ((rd_T70 l0 x11_1).f3))) else (some t297)) = some r := H
            have A5 := Aside0.mk A50
            clear A50
            by_cases c6 : t297 = 0
            · rw [if_pos c6] at H
              have c6b0 : (t297 == 0) = true := beq_iff_eq.mpr c6
              have c6b1 : (t297 != 0) = false := bne_eq_false_iff_eq.mpr c6
              clear c6
              have HC7 := Aside0.mk H
              clear H
              have p295 : 0 ≤ (x11_1 : Int) := of_decide_eq_true (by first | (with_reducible assumption) | assumption)
              have q295 : x11_1 < (l0.length : Int) := of_decide_eq_true (by first | (with_reducible assumption) | assumption)
              obtain ⟨ad295, A295_2, c295_2, A295_3, c295_3, e295, hx295_0, hx295_1, hx295_2, hx295_3, hl295_2, hi295_2, hl295_3, hi295_3⟩ := at_T70 HR0.out x11_1 p295 q295
              cases e295
              replace hx295_0 := (HB.out.cell (World.block_lt_of_cell? w _ hx295_0)).trans hx295_0
              replace hx295_1 := (HB.out.cell (World.block_lt_of_cell? w _ hx295_1)).trans hx295_1
              replace hx295_2 := (HB.out.cell (World.block_lt_of_cell? w _ hx295_2)).trans hx295_2
              replace hx295_3 := (HB.out.cell (World.block_lt_of_cell? w _ hx295_3)).trans hx295_3
              have HR295_2 := Aside0.mk hi295_2
              have HC295_2 := Aside0.mk hl295_2
              clear hi295_2 hl295_2
              have HR295_3 := Aside0.mk hi295_3
              have HC295_3 := Aside0.mk hl295_3
              clear hi295_3 hl295_3
              replace p295 := eq_true p295
              replace q295 := eq_true q295
              go_upto_if 24 with (first | ((with_reducible refine gate_dst (N := 6) rfl ?_); refine box_event ?hg (N := 6) ?hd (cs := #[.int .i64 0, .int .i64 0, .slice none 0 0, .slice none 0 0]) (t := 70) ?hr ?_; (case hd => rfl); (case hg => rfl); (case hr => first | (go_simp; done) | (go_simp; rfl)); intro gb296 hg w8 hbox hb; have n0_ := Aside0.mk (below_step (by with_reducible repeat first | exact HB.out | apply below_alloc | apply pw_below_drewN | apply below_drew1) hb); have n1_ := Aside0.mk (hbox); have n2_ := Aside0.mk ((by rw [hg]; exact (below_size (by with_reducible repeat first | exact HB.out | apply below_alloc | apply pw_below_drewN | apply below_drew1)) : w.heap.size ≤ gb296)); have n3_ := Aside0.mk ((by rw [hg]; exact (below_size (by with_reducible repeat first | exact HB.out | apply below_alloc | apply pw_below_drewN | apply below_drew1)) : w.heap.size ≤ gb296)); clear HB; have HB := n0_; have BK296 := n1_; have GW296 := n2_; have GE296 := n3_; clear n0_ n1_ n2_ n3_; clear hb hbox hg; have hcz9_0 : w8.cell? ⟨gb296, 0, none⟩ = some (.int .i64 0) := (blk_cell BK296.out 0).trans rfl; have hcz9_1 : w8.cell? ⟨gb296, 1, none⟩ = some (.int .i64 0) := (blk_cell BK296.out 1).trans rfl; have hcz9_2 : w8.cell? ⟨gb296, 2, none⟩ = some (.slice none 0 0) := (blk_cell BK296.out 2).trans rfl; have hcz9_3 : w8.cell? ⟨gb296, 3, none⟩ = some (.slice none 0 0) := (blk_cell BK296.out 3).trans rfl; have hfz9_0 := blk_frozen BK296.out 0; have hfz9_1 := blk_frozen BK296.out 1; have hfz9_2 := blk_frozen BK296.out 2; have hfz9_3 := blk_frozen BK296.out 3) | ((with_reducible refine gate_callee (f := 89) rfl ?_); refine goesL_ (some 19) rfl rfl Try.func89 (by kernel_rfl) rfl #[.agg #[.int .i64 ((rd_T70 l0 x11_1).f0), .int .i64 ((rd_T70 l0 x11_1).f1), .slice A295_2 ((rd_T70 l0 x11_1).f2).length c295_2, .slice A295_3 ((rd_T70 l0 x11_1).f3).length c295_3]] rfl (by (try simp only [List.map_toArray, List.map_cons, List.map_nil]); first | done | rfl | (simp only [List.length_drop, List.length_take]; rfl)) ?_; (with_reducible refine (chanceryref1_StepError.calls k1 ((rd_T70 l0 x11_1).f0) ((rd_T70 l0 x11_1).f1) _ _ ((rd_T70 l0 x11_1).f2) _ _ ((rd_T70 l0 x11_1).f3) t297 _ ?side1 ?side2 ?side3 ?side4 A5.out).mono ?_); (case side1 => exact Kd.C_below HR295_2.out (by repeat (first | (with_reducible first | exact HB.out | apply below_alloc | apply pw_below_drewN | apply below_drew1 | refine below_set ?_ GE296.out) | exact HB.out))); (case side2 => exact HC295_2.out); (case side3 => exact Kd.C_below HR295_3.out (by repeat (first | (with_reducible first | exact HB.out | apply below_alloc | apply pw_below_drewN | apply below_drew1 | refine below_set ?_ GE296.out) | exact HB.out))); (case side4 => exact HC295_3.out); rintro e w10 ⟨rfl, hb⟩; refine ⟨_, rfl, ?_⟩; have n0_ := Aside0.mk (blk_below (g := gb296) (o := .cells #[.int .i64 ((rd_T70 l0 x11_1).f0), .int .i64 ((rd_T70 l0 x11_1).f1), .slice A295_2 ((rd_T70 l0 x11_1).f2).length c295_2, .slice A295_3 ((rd_T70 l0 x11_1).f3).length c295_3] 70 (0, 0)) (by (with_reducible repeat (first | refine blk_drewN ?_ _ | refine blk_drew ?_ | refine blk_alloc ?_ _)); refine blk_put (cs := #[.int .i64 ((rd_T70 l0 x11_1).f0), .int .i64 ((rd_T70 l0 x11_1).f1), .slice A295_2 ((rd_T70 l0 x11_1).f2).length c295_2, .slice none 0 0]) ?_ 3 _ rfl; (with_reducible repeat (first | refine blk_drewN ?_ _ | refine blk_drew ?_ | refine blk_alloc ?_ _)); refine blk_put (cs := #[.int .i64 ((rd_T70 l0 x11_1).f0), .int .i64 ((rd_T70 l0 x11_1).f1), .slice none 0 0, .slice none 0 0]) ?_ 2 _ rfl; (with_reducible repeat (first | refine blk_drewN ?_ _ | refine blk_drew ?_ | refine blk_alloc ?_ _)); refine blk_put (cs := #[.int .i64 ((rd_T70 l0 x11_1).f0), .int .i64 0, .slice none 0 0, .slice none 0 0]) ?_ 1 _ rfl; (with_reducible repeat (first | refine blk_drewN ?_ _ | refine blk_drew ?_ | refine blk_alloc ?_ _)); refine blk_put (cs := #[.int .i64 0, .int .i64 0, .slice none 0 0, .slice none 0 0]) ?_ 0 _ rfl; (with_reducible repeat (first | refine blk_drewN ?_ _ | refine blk_drew ?_ | refine blk_alloc ?_ _)); exact BK296.out) hb); have n1_ := Aside0.mk (below_step (by repeat (first | (with_reducible first | exact HB.out | apply below_alloc | apply pw_below_drewN | apply below_drew1 | refine below_set ?_ GE296.out) | exact HB.out)) hb); clear BK296; clear HB; have BK296 := n0_; have HB := n1_; clear n0_ n1_; (try clear hb); (try clear hb2); (try clear hk); (try clear hi)))
              (try simp only [Act.put, List.setIfInBounds_toArray, List.set_cons_zero, List.set_cons_succ])
              go_cut [] (fun wc => ∃ (kq : Nat), Aside0 (chanceryref1_DeltaError.j1 kq l0 x3_1 x4_1 (l0.length : Int) x11_1 ((rd_T70 l0 x11_1).f0) ((rd_T70 l0 x11_1).f1) ((rd_T70 l0 x11_1).f2) ((rd_T70 l0 x11_1).f3) = some r) ∧ Aside0 (kq ≤ k1) ∧ Aside0 (wc.heap[gb296]? = some (.cells #[.int .i64 ((rd_T70 l0 x11_1).f0), .int .i64 ((rd_T70 l0 x11_1).f1), (.slice A295_2 ((rd_T70 l0 x11_1).f2).length c295_2), (.slice A295_3 ((rd_T70 l0 x11_1).f3).length c295_3)] 70 (0, 0))) ∧ Aside0 (Below w.heap.size w wc))
              case first =>
                have H := HC7.out
                clear HC7
                by_cases c11 : x11_1 > 0
                · rw [if_pos c11] at H
                  have c11b0 : decide (0 < x11_1) = true := decide_eq_true c11
                  clear c11
                  (first | rw [c11b0] | (simp only [i64_w, i32_w]; rw [c11b0]) | skip)
                  obtain ⟨ji12, hji12⟩ : ∃ j_ : Int, (wrap64 (x11_1 - 1)) = j_ := ⟨_, rfl⟩
                  replace H : (if 0 ≤ (ji12) then (if (ji12) < (l0.length : Int) then (if ((rd_T70 l0 x11_1).f0) = 1 then (if ((rd_T70 l0 (ji12)).f0) = 0 then (chanceryref1_DeltaError.j1 k1 l0 x3_1 x4_1 (l0.length : Int) x11_1 ((rd_T70 l0 x11_1).f0) ((rd_T70 l0 x11_1).f1) ((rd_T70 l0 x11_1).f2) ((rd_T70 l0 x11_1).f3)) else (some 5)) else (if ((rd_T70 l0 x11_1).f0) = 2 then (if ((rd_T70 l0 (ji12)).f0) = 2 then (some 5) else (chanceryref1_DeltaError.j1 k1 l0 x3_1 x4_1 (l0.length : Int) x11_1 ((rd_T70 l0 x11_1).f0) ((rd_T70 l0 x11_1).f1) ((rd_T70 l0 x11_1).f2) ((rd_T70 l0 x11_1).f3))) else (if ((rd_T70 l0 (ji12)).f0) = 0 then ((chanceryref1_SameAttrs.f k1 ((rd_T70 l0 (ji12)).f2) ((rd_T70 l0 x11_1).f2)).bind fun t300 => (if t300 = true then (some 5) else (chanceryref1_DeltaError.j1 k1 l0 x3_1 x4_1 (l0.length : Int) x11_1 ((rd_T70 l0 x11_1).f0) ((rd_T70 l0 x11_1).f1) ((rd_T70 l0 x11_1).f2) ((rd_T70 l0 x11_1).f3)))) else (chanceryref1_DeltaError.j1 k1 l0 x3_1 x4_1 (l0.length : Int) x11_1 ((rd_T70 l0 x11_1).f0) ((rd_T70 l0 x11_1).f1) ((rd_T70 l0 x11_1).f2) ((rd_T70 l0 x11_1).f3))))) else (none)) else (none)) = some r := by first | (rw [hji12] at H; exact H) | (simp only [hji12] at H ⊢; exact H)
                  have hji12w : (IntKind.i64.wrap (x11_1 - 1)) = ji12 := (i64_w _).trans hji12
                  by_cases c13 : 0 ≤ (ji12)
                  · rw [if_pos c13] at H
                    have c13b0 : decide (0 ≤ (ji12)) = true := decide_eq_true c13
                    clear c13
                    by_cases c14 : (ji12) < (l0.length : Int)
                    · rw [if_pos c14] at H
                      have c14b0 : decide ((ji12) < (l0.length : Int)) = true := decide_eq_true c14
                      clear c14
                      by_cases c15 : ((rd_T70 l0 x11_1).f0) = 1
                      · rw [if_pos c15] at H
                        have c15b0 : (((rd_T70 l0 x11_1).f0) == 1) = true := beq_iff_eq.mpr c15
                        have c15b1 : (((rd_T70 l0 x11_1).f0) != 1) = false := bne_eq_false_iff_eq.mpr c15
                        clear c15
                        by_cases c16 : ((rd_T70 l0 (ji12)).f0) = 0
                        · rw [if_pos c16] at H
                          have c16b0 : (((rd_T70 l0 (ji12)).f0) == 0) = true := beq_iff_eq.mpr c16
                          have c16b1 : (((rd_T70 l0 (ji12)).f0) != 0) = false := bne_eq_false_iff_eq.mpr c16
                          clear c16
                          have H' := Aside0.mk H
                          clear H
                          have p298 : 0 ≤ ((ji12) : Int) := of_decide_eq_true (by first | (with_reducible assumption) | assumption)
                          have q298 : (ji12) < (l0.length : Int) := of_decide_eq_true (by first | (with_reducible assumption) | assumption)
                          obtain ⟨ad298, A298_2, c298_2, A298_3, c298_3, e298, hx298_0, hx298_1, hx298_2, hx298_3, hl298_2, hi298_2, hl298_3, hi298_3⟩ := at_T70 HR0.out (ji12) p298 q298
                          obtain rfl : ad295 = ad298 := (by injection e298)
                          replace hx298_0 := (HB.out.cell (World.block_lt_of_cell? w _ hx298_0)).trans hx298_0
                          replace hx298_1 := (HB.out.cell (World.block_lt_of_cell? w _ hx298_1)).trans hx298_1
                          replace hx298_2 := (HB.out.cell (World.block_lt_of_cell? w _ hx298_2)).trans hx298_2
                          replace hx298_3 := (HB.out.cell (World.block_lt_of_cell? w _ hx298_3)).trans hx298_3
                          have HR298_2 := Aside0.mk hi298_2
                          have HC298_2 := Aside0.mk hl298_2
                          clear hi298_2 hl298_2
                          have HR298_3 := Aside0.mk hi298_3
                          have HC298_3 := Aside0.mk hl298_3
                          clear hi298_3 hl298_3
                          replace p298 := eq_true p298
                          replace q298 := eq_true q298
                          go_wp2_with (first | ((with_reducible refine gate_dst (N := 8) rfl ?_); refine box_event ?hg (N := 8) ?hd (cs := #[.int .i64 0, .int .i64 0, .slice none 0 0, .slice none 0 0]) (t := 70) ?hr ?_; (case hd => rfl); (case hg => rfl); (case hr => first | (go_simp; done) | (go_simp; rfl)); intro gb299 hg w17 hbox hb; have n0_ := Aside0.mk (blk_below (g := gb296) (o := .cells #[.int .i64 ((rd_T70 l0 x11_1).f0), .int .i64 ((rd_T70 l0 x11_1).f1), .slice A295_2 ((rd_T70 l0 x11_1).f2).length c295_2, .slice A295_3 ((rd_T70 l0 x11_1).f3).length c295_3] 70 (0, 0)) (by (with_reducible repeat (first | refine blk_drewN ?_ _ | refine blk_drew ?_ | refine blk_alloc ?_ _)); exact BK296.out) hb); have n1_ := Aside0.mk (below_step (by repeat (first | (with_reducible first | exact HB.out | apply below_alloc | apply pw_below_drewN | apply below_drew1 | refine below_set ?_ GE296.out) | exact HB.out)) hb); have n2_ := Aside0.mk (hbox); have n3_ := Aside0.mk ((by rw [hg]; exact (below_size (by repeat (first | (with_reducible first | exact HB.out | apply below_alloc | apply pw_below_drewN | apply below_drew1 | refine below_set ?_ GE296.out) | exact HB.out))) : w.heap.size ≤ gb299)); have n4_ := Aside0.mk ((by rw [hg]; exact (below_size (by repeat (first | (with_reducible first | exact HB.out | apply below_alloc | apply pw_below_drewN | apply below_drew1 | refine below_set ?_ GE296.out) | exact HB.out))) : w.heap.size ≤ gb299)); have n5_ := Aside0.mk ((by rw [hg]; exact Nat.ne_of_lt (blk_lt (g := gb296) (o := .cells #[.int .i64 ((rd_T70 l0 x11_1).f0), .int .i64 ((rd_T70 l0 x11_1).f1), .slice A295_2 ((rd_T70 l0 x11_1).f2).length c295_2, .slice A295_3 ((rd_T70 l0 x11_1).f3).length c295_3] 70 (0, 0)) (by (with_reducible repeat (first | refine blk_drewN ?_ _ | refine blk_drew ?_ | refine blk_alloc ?_ _)); exact BK296.out)) : gb296 ≠ gb299)); have n6_ := Aside0.mk ((by rw [hg]; exact Nat.ne_of_gt (blk_lt (g := gb296) (o := .cells #[.int .i64 ((rd_T70 l0 x11_1).f0), .int .i64 ((rd_T70 l0 x11_1).f1), .slice A295_2 ((rd_T70 l0 x11_1).f2).length c295_2, .slice A295_3 ((rd_T70 l0 x11_1).f3).length c295_3] 70 (0, 0)) (by (with_reducible repeat (first | refine blk_drewN ?_ _ | refine blk_drew ?_ | refine blk_alloc ?_ _)); exact BK296.out)) : gb299 ≠ gb296)); clear BK296; clear HB; have BK296 := n0_; have HB := n1_; have BK299 := n2_; have GW299 := n3_; have GE299 := n4_; have NB296_299 := n5_; have NB299_296 := n6_; clear n0_ n1_ n2_ n3_ n4_ n5_ n6_; clear hb hbox hg; have hnb18 := NB299_296.out; have hnc18 := NB296_299.out; have hcz19_0 : w17.cell? ⟨gb299, 0, none⟩ = some (.int .i64 0) := (blk_cell BK299.out 0).trans rfl; have hcz19_1 : w17.cell? ⟨gb299, 1, none⟩ = some (.int .i64 0) := (blk_cell BK299.out 1).trans rfl; have hcz19_2 : w17.cell? ⟨gb299, 2, none⟩ = some (.slice none 0 0) := (blk_cell BK299.out 2).trans rfl; have hcz19_3 : w17.cell? ⟨gb299, 3, none⟩ = some (.slice none 0 0) := (blk_cell BK299.out 3).trans rfl; have hfz19_0 := blk_frozen BK299.out 0; have hfz19_1 := blk_frozen BK299.out 1; have hfz19_2 := blk_frozen BK299.out 2; have hfz19_3 := blk_frozen BK299.out 3; have hcz20_0 : w17.cell? ⟨gb296, 0, none⟩ = some (.int .i64 ((rd_T70 l0 x11_1).f0)) := (blk_cell BK296.out 0).trans rfl; have hcz20_1 : w17.cell? ⟨gb296, 1, none⟩ = some (.int .i64 ((rd_T70 l0 x11_1).f1)) := (blk_cell BK296.out 1).trans rfl; have hcz20_2 : w17.cell? ⟨gb296, 2, none⟩ = some (.slice A295_2 ((rd_T70 l0 x11_1).f2).length c295_2) := (blk_cell BK296.out 2).trans rfl; have hcz20_3 : w17.cell? ⟨gb296, 3, none⟩ = some (.slice A295_3 ((rd_T70 l0 x11_1).f3).length c295_3) := (blk_cell BK296.out 3).trans rfl; have hfz20_0 := blk_frozen BK296.out 0; have hfz20_1 := blk_frozen BK296.out 1; have hfz20_2 := blk_frozen BK296.out 2; have hfz20_3 := blk_frozen BK296.out 3))
                          go_meet
                          case rel => exact ⟨_, H', ⟨by have := HK1.out; first | omega | exact Nat.le_refl _⟩, ⟨by (with_reducible repeat (first | refine blk_drewN ?_ _ | refine blk_drew ?_ | refine blk_alloc ?_ _)); refine blk_far ?_ NB296_299.out _; (with_reducible repeat (first | refine blk_drewN ?_ _ | refine blk_drew ?_ | refine blk_alloc ?_ _)); refine blk_far ?_ NB296_299.out _; (with_reducible repeat (first | refine blk_drewN ?_ _ | refine blk_drew ?_ | refine blk_alloc ?_ _)); refine blk_far ?_ NB296_299.out _; (with_reducible repeat (first | refine blk_drewN ?_ _ | refine blk_drew ?_ | refine blk_alloc ?_ _)); refine blk_far ?_ NB296_299.out _; (with_reducible repeat (first | refine blk_drewN ?_ _ | refine blk_drew ?_ | refine blk_alloc ?_ _)); exact BK296.out⟩, ⟨by repeat (first | (with_reducible first | exact HB.out | apply below_alloc | apply pw_below_drewN | apply below_drew1 | refine below_set ?_ GE296.out | refine below_set ?_ GE299.out) | exact HB.out)⟩⟩
                        · rw [if_neg c16] at H
                          have c16b0 : (((rd_T70 l0 (ji12)).f0) == 0) = false := beq_eq_false_iff_ne.mpr c16
                          have c16b1 : (((rd_T70 l0 (ji12)).f0) != 0) = true := bne_iff_ne.mpr c16
                          obtain rfl := Option.some.inj H
                          have p298 : 0 ≤ ((ji12) : Int) := of_decide_eq_true (by first | (with_reducible assumption) | assumption)
                          have q298 : (ji12) < (l0.length : Int) := of_decide_eq_true (by first | (with_reducible assumption) | assumption)
                          obtain ⟨ad298, A298_2, c298_2, A298_3, c298_3, e298, hx298_0, hx298_1, hx298_2, hx298_3, hl298_2, hi298_2, hl298_3, hi298_3⟩ := at_T70 HR0.out (ji12) p298 q298
                          obtain rfl : ad295 = ad298 := (by injection e298)
                          replace hx298_0 := (HB.out.cell (World.block_lt_of_cell? w _ hx298_0)).trans hx298_0
                          replace hx298_1 := (HB.out.cell (World.block_lt_of_cell? w _ hx298_1)).trans hx298_1
                          replace hx298_2 := (HB.out.cell (World.block_lt_of_cell? w _ hx298_2)).trans hx298_2
                          replace hx298_3 := (HB.out.cell (World.block_lt_of_cell? w _ hx298_3)).trans hx298_3
                          have HR298_2 := Aside0.mk hi298_2
                          have HC298_2 := Aside0.mk hl298_2
                          clear hi298_2 hl298_2
                          have HR298_3 := Aside0.mk hi298_3
                          have HC298_3 := Aside0.mk hl298_3
                          clear hi298_3 hl298_3
                          replace p298 := eq_true p298
                          replace q298 := eq_true q298
                          go_wp2_with (first | ((with_reducible refine gate_dst (N := 8) rfl ?_); refine box_event ?hg (N := 8) ?hd (cs := #[.int .i64 0, .int .i64 0, .slice none 0 0, .slice none 0 0]) (t := 70) ?hr ?_; (case hd => rfl); (case hg => rfl); (case hr => first | (go_simp; done) | (go_simp; rfl)); intro gb299 hg w21 hbox hb; have n0_ := Aside0.mk (blk_below (g := gb296) (o := .cells #[.int .i64 ((rd_T70 l0 x11_1).f0), .int .i64 ((rd_T70 l0 x11_1).f1), .slice A295_2 ((rd_T70 l0 x11_1).f2).length c295_2, .slice A295_3 ((rd_T70 l0 x11_1).f3).length c295_3] 70 (0, 0)) (by (with_reducible repeat (first | refine blk_drewN ?_ _ | refine blk_drew ?_ | refine blk_alloc ?_ _)); exact BK296.out) hb); have n1_ := Aside0.mk (below_step (by repeat (first | (with_reducible first | exact HB.out | apply below_alloc | apply pw_below_drewN | apply below_drew1 | refine below_set ?_ GE296.out) | exact HB.out)) hb); have n2_ := Aside0.mk (hbox); have n3_ := Aside0.mk ((by rw [hg]; exact (below_size (by repeat (first | (with_reducible first | exact HB.out | apply below_alloc | apply pw_below_drewN | apply below_drew1 | refine below_set ?_ GE296.out) | exact HB.out))) : w.heap.size ≤ gb299)); have n4_ := Aside0.mk ((by rw [hg]; exact (below_size (by repeat (first | (with_reducible first | exact HB.out | apply below_alloc | apply pw_below_drewN | apply below_drew1 | refine below_set ?_ GE296.out) | exact HB.out))) : w.heap.size ≤ gb299)); have n5_ := Aside0.mk ((by rw [hg]; exact Nat.ne_of_lt (blk_lt (g := gb296) (o := .cells #[.int .i64 ((rd_T70 l0 x11_1).f0), .int .i64 ((rd_T70 l0 x11_1).f1), .slice A295_2 ((rd_T70 l0 x11_1).f2).length c295_2, .slice A295_3 ((rd_T70 l0 x11_1).f3).length c295_3] 70 (0, 0)) (by (with_reducible repeat (first | refine blk_drewN ?_ _ | refine blk_drew ?_ | refine blk_alloc ?_ _)); exact BK296.out)) : gb296 ≠ gb299)); have n6_ := Aside0.mk ((by rw [hg]; exact Nat.ne_of_gt (blk_lt (g := gb296) (o := .cells #[.int .i64 ((rd_T70 l0 x11_1).f0), .int .i64 ((rd_T70 l0 x11_1).f1), .slice A295_2 ((rd_T70 l0 x11_1).f2).length c295_2, .slice A295_3 ((rd_T70 l0 x11_1).f3).length c295_3] 70 (0, 0)) (by (with_reducible repeat (first | refine blk_drewN ?_ _ | refine blk_drew ?_ | refine blk_alloc ?_ _)); exact BK296.out)) : gb299 ≠ gb296)); clear BK296; clear HB; have BK296 := n0_; have HB := n1_; have BK299 := n2_; have GW299 := n3_; have GE299 := n4_; have NB296_299 := n5_; have NB299_296 := n6_; clear n0_ n1_ n2_ n3_ n4_ n5_ n6_; clear hb hbox hg; have hnb22 := NB299_296.out; have hnc22 := NB296_299.out; have hcz23_0 : w21.cell? ⟨gb299, 0, none⟩ = some (.int .i64 0) := (blk_cell BK299.out 0).trans rfl; have hcz23_1 : w21.cell? ⟨gb299, 1, none⟩ = some (.int .i64 0) := (blk_cell BK299.out 1).trans rfl; have hcz23_2 : w21.cell? ⟨gb299, 2, none⟩ = some (.slice none 0 0) := (blk_cell BK299.out 2).trans rfl; have hcz23_3 : w21.cell? ⟨gb299, 3, none⟩ = some (.slice none 0 0) := (blk_cell BK299.out 3).trans rfl; have hfz23_0 := blk_frozen BK299.out 0; have hfz23_1 := blk_frozen BK299.out 1; have hfz23_2 := blk_frozen BK299.out 2; have hfz23_3 := blk_frozen BK299.out 3; have hcz24_0 : w21.cell? ⟨gb296, 0, none⟩ = some (.int .i64 ((rd_T70 l0 x11_1).f0)) := (blk_cell BK296.out 0).trans rfl; have hcz24_1 : w21.cell? ⟨gb296, 1, none⟩ = some (.int .i64 ((rd_T70 l0 x11_1).f1)) := (blk_cell BK296.out 1).trans rfl; have hcz24_2 : w21.cell? ⟨gb296, 2, none⟩ = some (.slice A295_2 ((rd_T70 l0 x11_1).f2).length c295_2) := (blk_cell BK296.out 2).trans rfl; have hcz24_3 : w21.cell? ⟨gb296, 3, none⟩ = some (.slice A295_3 ((rd_T70 l0 x11_1).f3).length c295_3) := (blk_cell BK296.out 3).trans rfl; have hfz24_0 := blk_frozen BK296.out 0; have hfz24_1 := blk_frozen BK296.out 1; have hfz24_2 := blk_frozen BK296.out 2; have hfz24_3 := blk_frozen BK296.out 3))
                          go_ret
                          exact ⟨by first | rfl | (simp [errW_none, errW_some] <;> rfl) | (simp only [← hji12]; first | rfl | (simp [errW_none, errW_some] <;> rfl)) | (simp [*, errW_none, errW_some] <;> rfl), by repeat (first | (with_reducible first | exact HB.out | apply below_alloc | apply pw_below_drewN | apply below_drew1 | refine below_set ?_ GE296.out | refine below_set ?_ GE299.out) | exact HB.out)⟩
                      · rw [if_neg c15] at H
                        have c15b0 : (((rd_T70 l0 x11_1).f0) == 1) = false := beq_eq_false_iff_ne.mpr c15
                        have c15b1 : (((rd_T70 l0 x11_1).f0) != 1) = true := bne_iff_ne.mpr c15
                        by_cases c25 : ((rd_T70 l0 x11_1).f0) = 2
                        · rw [if_pos c25] at H
                          have c25b0 : (((rd_T70 l0 x11_1).f0) == 2) = true := beq_iff_eq.mpr c25
                          have c25b1 : (((rd_T70 l0 x11_1).f0) != 2) = false := bne_eq_false_iff_eq.mpr c25
                          clear c25
                          by_cases c26 : ((rd_T70 l0 (ji12)).f0) = 2
                          · rw [if_pos c26] at H
                            have c26b0 : (((rd_T70 l0 (ji12)).f0) == 2) = true := beq_iff_eq.mpr c26
                            have c26b1 : (((rd_T70 l0 (ji12)).f0) != 2) = false := bne_eq_false_iff_eq.mpr c26
                            clear c26
                            obtain rfl := Option.some.inj H
                            have p298 : 0 ≤ ((ji12) : Int) := of_decide_eq_true (by first | (with_reducible assumption) | assumption)
                            have q298 : (ji12) < (l0.length : Int) := of_decide_eq_true (by first | (with_reducible assumption) | assumption)
                            obtain ⟨ad298, A298_2, c298_2, A298_3, c298_3, e298, hx298_0, hx298_1, hx298_2, hx298_3, hl298_2, hi298_2, hl298_3, hi298_3⟩ := at_T70 HR0.out (ji12) p298 q298
                            obtain rfl : ad295 = ad298 := (by injection e298)
                            replace hx298_0 := (HB.out.cell (World.block_lt_of_cell? w _ hx298_0)).trans hx298_0
                            replace hx298_1 := (HB.out.cell (World.block_lt_of_cell? w _ hx298_1)).trans hx298_1
                            replace hx298_2 := (HB.out.cell (World.block_lt_of_cell? w _ hx298_2)).trans hx298_2
                            replace hx298_3 := (HB.out.cell (World.block_lt_of_cell? w _ hx298_3)).trans hx298_3
                            have HR298_2 := Aside0.mk hi298_2
                            have HC298_2 := Aside0.mk hl298_2
                            clear hi298_2 hl298_2
                            have HR298_3 := Aside0.mk hi298_3
                            have HC298_3 := Aside0.mk hl298_3
                            clear hi298_3 hl298_3
                            replace p298 := eq_true p298
                            replace q298 := eq_true q298
                            go_wp2_with (first | ((with_reducible refine gate_dst (N := 8) rfl ?_); refine box_event ?hg (N := 8) ?hd (cs := #[.int .i64 0, .int .i64 0, .slice none 0 0, .slice none 0 0]) (t := 70) ?hr ?_; (case hd => rfl); (case hg => rfl); (case hr => first | (go_simp; done) | (go_simp; rfl)); intro gb299 hg w27 hbox hb; have n0_ := Aside0.mk (blk_below (g := gb296) (o := .cells #[.int .i64 ((rd_T70 l0 x11_1).f0), .int .i64 ((rd_T70 l0 x11_1).f1), .slice A295_2 ((rd_T70 l0 x11_1).f2).length c295_2, .slice A295_3 ((rd_T70 l0 x11_1).f3).length c295_3] 70 (0, 0)) (by (with_reducible repeat (first | refine blk_drewN ?_ _ | refine blk_drew ?_ | refine blk_alloc ?_ _)); exact BK296.out) hb); have n1_ := Aside0.mk (below_step (by repeat (first | (with_reducible first | exact HB.out | apply below_alloc | apply pw_below_drewN | apply below_drew1 | refine below_set ?_ GE296.out) | exact HB.out)) hb); have n2_ := Aside0.mk (hbox); have n3_ := Aside0.mk ((by rw [hg]; exact (below_size (by repeat (first | (with_reducible first | exact HB.out | apply below_alloc | apply pw_below_drewN | apply below_drew1 | refine below_set ?_ GE296.out) | exact HB.out))) : w.heap.size ≤ gb299)); have n4_ := Aside0.mk ((by rw [hg]; exact (below_size (by repeat (first | (with_reducible first | exact HB.out | apply below_alloc | apply pw_below_drewN | apply below_drew1 | refine below_set ?_ GE296.out) | exact HB.out))) : w.heap.size ≤ gb299)); have n5_ := Aside0.mk ((by rw [hg]; exact Nat.ne_of_lt (blk_lt (g := gb296) (o := .cells #[.int .i64 ((rd_T70 l0 x11_1).f0), .int .i64 ((rd_T70 l0 x11_1).f1), .slice A295_2 ((rd_T70 l0 x11_1).f2).length c295_2, .slice A295_3 ((rd_T70 l0 x11_1).f3).length c295_3] 70 (0, 0)) (by (with_reducible repeat (first | refine blk_drewN ?_ _ | refine blk_drew ?_ | refine blk_alloc ?_ _)); exact BK296.out)) : gb296 ≠ gb299)); have n6_ := Aside0.mk ((by rw [hg]; exact Nat.ne_of_gt (blk_lt (g := gb296) (o := .cells #[.int .i64 ((rd_T70 l0 x11_1).f0), .int .i64 ((rd_T70 l0 x11_1).f1), .slice A295_2 ((rd_T70 l0 x11_1).f2).length c295_2, .slice A295_3 ((rd_T70 l0 x11_1).f3).length c295_3] 70 (0, 0)) (by (with_reducible repeat (first | refine blk_drewN ?_ _ | refine blk_drew ?_ | refine blk_alloc ?_ _)); exact BK296.out)) : gb299 ≠ gb296)); clear BK296; clear HB; have BK296 := n0_; have HB := n1_; have BK299 := n2_; have GW299 := n3_; have GE299 := n4_; have NB296_299 := n5_; have NB299_296 := n6_; clear n0_ n1_ n2_ n3_ n4_ n5_ n6_; clear hb hbox hg; have hnb28 := NB299_296.out; have hnc28 := NB296_299.out; have hcz29_0 : w27.cell? ⟨gb299, 0, none⟩ = some (.int .i64 0) := (blk_cell BK299.out 0).trans rfl; have hcz29_1 : w27.cell? ⟨gb299, 1, none⟩ = some (.int .i64 0) := (blk_cell BK299.out 1).trans rfl; have hcz29_2 : w27.cell? ⟨gb299, 2, none⟩ = some (.slice none 0 0) := (blk_cell BK299.out 2).trans rfl; have hcz29_3 : w27.cell? ⟨gb299, 3, none⟩ = some (.slice none 0 0) := (blk_cell BK299.out 3).trans rfl; have hfz29_0 := blk_frozen BK299.out 0; have hfz29_1 := blk_frozen BK299.out 1; have hfz29_2 := blk_frozen BK299.out 2; have hfz29_3 := blk_frozen BK299.out 3; have hcz30_0 : w27.cell? ⟨gb296, 0, none⟩ = some (.int .i64 ((rd_T70 l0 x11_1).f0)) := (blk_cell BK296.out 0).trans rfl; have hcz30_1 : w27.cell? ⟨gb296, 1, none⟩ = some (.int .i64 ((rd_T70 l0 x11_1).f1)) := (blk_cell BK296.out 1).trans rfl; have hcz30_2 : w27.cell? ⟨gb296, 2, none⟩ = some (.slice A295_2 ((rd_T70 l0 x11_1).f2).length c295_2) := (blk_cell BK296.out 2).trans rfl; have hcz30_3 : w27.cell? ⟨gb296, 3, none⟩ = some (.slice A295_3 ((rd_T70 l0 x11_1).f3).length c295_3) := (blk_cell BK296.out 3).trans rfl; have hfz30_0 := blk_frozen BK296.out 0; have hfz30_1 := blk_frozen BK296.out 1; have hfz30_2 := blk_frozen BK296.out 2; have hfz30_3 := blk_frozen BK296.out 3))
                            go_ret
                            exact ⟨by first | rfl | (simp [errW_none, errW_some] <;> rfl) | (simp only [← hji12]; first | rfl | (simp [errW_none, errW_some] <;> rfl)) | (simp [*, errW_none, errW_some] <;> rfl), by repeat (first | (with_reducible first | exact HB.out | apply below_alloc | apply pw_below_drewN | apply below_drew1 | refine below_set ?_ GE296.out | refine below_set ?_ GE299.out) | exact HB.out)⟩
                          · rw [if_neg c26] at H
                            have c26b0 : (((rd_T70 l0 (ji12)).f0) == 2) = false := beq_eq_false_iff_ne.mpr c26
                            have c26b1 : (((rd_T70 l0 (ji12)).f0) != 2) = true := bne_iff_ne.mpr c26
                            have H' := Aside0.mk H
                            clear H
                            have p298 : 0 ≤ ((ji12) : Int) := of_decide_eq_true (by first | (with_reducible assumption) | assumption)
                            have q298 : (ji12) < (l0.length : Int) := of_decide_eq_true (by first | (with_reducible assumption) | assumption)
                            obtain ⟨ad298, A298_2, c298_2, A298_3, c298_3, e298, hx298_0, hx298_1, hx298_2, hx298_3, hl298_2, hi298_2, hl298_3, hi298_3⟩ := at_T70 HR0.out (ji12) p298 q298
                            obtain rfl : ad295 = ad298 := (by injection e298)
                            replace hx298_0 := (HB.out.cell (World.block_lt_of_cell? w _ hx298_0)).trans hx298_0
                            replace hx298_1 := (HB.out.cell (World.block_lt_of_cell? w _ hx298_1)).trans hx298_1
                            replace hx298_2 := (HB.out.cell (World.block_lt_of_cell? w _ hx298_2)).trans hx298_2
                            replace hx298_3 := (HB.out.cell (World.block_lt_of_cell? w _ hx298_3)).trans hx298_3
                            have HR298_2 := Aside0.mk hi298_2
                            have HC298_2 := Aside0.mk hl298_2
                            clear hi298_2 hl298_2
                            have HR298_3 := Aside0.mk hi298_3
                            have HC298_3 := Aside0.mk hl298_3
                            clear hi298_3 hl298_3
                            replace p298 := eq_true p298
                            replace q298 := eq_true q298
                            go_wp2_with (first | ((with_reducible refine gate_dst (N := 8) rfl ?_); refine box_event ?hg (N := 8) ?hd (cs := #[.int .i64 0, .int .i64 0, .slice none 0 0, .slice none 0 0]) (t := 70) ?hr ?_; (case hd => rfl); (case hg => rfl); (case hr => first | (go_simp; done) | (go_simp; rfl)); intro gb299 hg w31 hbox hb; have n0_ := Aside0.mk (blk_below (g := gb296) (o := .cells #[.int .i64 ((rd_T70 l0 x11_1).f0), .int .i64 ((rd_T70 l0 x11_1).f1), .slice A295_2 ((rd_T70 l0 x11_1).f2).length c295_2, .slice A295_3 ((rd_T70 l0 x11_1).f3).length c295_3] 70 (0, 0)) (by (with_reducible repeat (first | refine blk_drewN ?_ _ | refine blk_drew ?_ | refine blk_alloc ?_ _)); exact BK296.out) hb); have n1_ := Aside0.mk (below_step (by repeat (first | (with_reducible first | exact HB.out | apply below_alloc | apply pw_below_drewN | apply below_drew1 | refine below_set ?_ GE296.out) | exact HB.out)) hb); have n2_ := Aside0.mk (hbox); have n3_ := Aside0.mk ((by rw [hg]; exact (below_size (by repeat (first | (with_reducible first | exact HB.out | apply below_alloc | apply pw_below_drewN | apply below_drew1 | refine below_set ?_ GE296.out) | exact HB.out))) : w.heap.size ≤ gb299)); have n4_ := Aside0.mk ((by rw [hg]; exact (below_size (by repeat (first | (with_reducible first | exact HB.out | apply below_alloc | apply pw_below_drewN | apply below_drew1 | refine below_set ?_ GE296.out) | exact HB.out))) : w.heap.size ≤ gb299)); have n5_ := Aside0.mk ((by rw [hg]; exact Nat.ne_of_lt (blk_lt (g := gb296) (o := .cells #[.int .i64 ((rd_T70 l0 x11_1).f0), .int .i64 ((rd_T70 l0 x11_1).f1), .slice A295_2 ((rd_T70 l0 x11_1).f2).length c295_2, .slice A295_3 ((rd_T70 l0 x11_1).f3).length c295_3] 70 (0, 0)) (by (with_reducible repeat (first | refine blk_drewN ?_ _ | refine blk_drew ?_ | refine blk_alloc ?_ _)); exact BK296.out)) : gb296 ≠ gb299)); have n6_ := Aside0.mk ((by rw [hg]; exact Nat.ne_of_gt (blk_lt (g := gb296) (o := .cells #[.int .i64 ((rd_T70 l0 x11_1).f0), .int .i64 ((rd_T70 l0 x11_1).f1), .slice A295_2 ((rd_T70 l0 x11_1).f2).length c295_2, .slice A295_3 ((rd_T70 l0 x11_1).f3).length c295_3] 70 (0, 0)) (by (with_reducible repeat (first | refine blk_drewN ?_ _ | refine blk_drew ?_ | refine blk_alloc ?_ _)); exact BK296.out)) : gb299 ≠ gb296)); clear BK296; clear HB; have BK296 := n0_; have HB := n1_; have BK299 := n2_; have GW299 := n3_; have GE299 := n4_; have NB296_299 := n5_; have NB299_296 := n6_; clear n0_ n1_ n2_ n3_ n4_ n5_ n6_; clear hb hbox hg; have hnb32 := NB299_296.out; have hnc32 := NB296_299.out; have hcz33_0 : w31.cell? ⟨gb299, 0, none⟩ = some (.int .i64 0) := (blk_cell BK299.out 0).trans rfl; have hcz33_1 : w31.cell? ⟨gb299, 1, none⟩ = some (.int .i64 0) := (blk_cell BK299.out 1).trans rfl; have hcz33_2 : w31.cell? ⟨gb299, 2, none⟩ = some (.slice none 0 0) := (blk_cell BK299.out 2).trans rfl; have hcz33_3 : w31.cell? ⟨gb299, 3, none⟩ = some (.slice none 0 0) := (blk_cell BK299.out 3).trans rfl; have hfz33_0 := blk_frozen BK299.out 0; have hfz33_1 := blk_frozen BK299.out 1; have hfz33_2 := blk_frozen BK299.out 2; have hfz33_3 := blk_frozen BK299.out 3; have hcz34_0 : w31.cell? ⟨gb296, 0, none⟩ = some (.int .i64 ((rd_T70 l0 x11_1).f0)) := (blk_cell BK296.out 0).trans rfl; have hcz34_1 : w31.cell? ⟨gb296, 1, none⟩ = some (.int .i64 ((rd_T70 l0 x11_1).f1)) := (blk_cell BK296.out 1).trans rfl; have hcz34_2 : w31.cell? ⟨gb296, 2, none⟩ = some (.slice A295_2 ((rd_T70 l0 x11_1).f2).length c295_2) := (blk_cell BK296.out 2).trans rfl; have hcz34_3 : w31.cell? ⟨gb296, 3, none⟩ = some (.slice A295_3 ((rd_T70 l0 x11_1).f3).length c295_3) := (blk_cell BK296.out 3).trans rfl; have hfz34_0 := blk_frozen BK296.out 0; have hfz34_1 := blk_frozen BK296.out 1; have hfz34_2 := blk_frozen BK296.out 2; have hfz34_3 := blk_frozen BK296.out 3))
                            go_meet
                            case rel => exact ⟨_, H', ⟨by have := HK1.out; first | omega | exact Nat.le_refl _⟩, ⟨by (with_reducible repeat (first | refine blk_drewN ?_ _ | refine blk_drew ?_ | refine blk_alloc ?_ _)); refine blk_far ?_ NB296_299.out _; (with_reducible repeat (first | refine blk_drewN ?_ _ | refine blk_drew ?_ | refine blk_alloc ?_ _)); refine blk_far ?_ NB296_299.out _; (with_reducible repeat (first | refine blk_drewN ?_ _ | refine blk_drew ?_ | refine blk_alloc ?_ _)); refine blk_far ?_ NB296_299.out _; (with_reducible repeat (first | refine blk_drewN ?_ _ | refine blk_drew ?_ | refine blk_alloc ?_ _)); refine blk_far ?_ NB296_299.out _; (with_reducible repeat (first | refine blk_drewN ?_ _ | refine blk_drew ?_ | refine blk_alloc ?_ _)); exact BK296.out⟩, ⟨by repeat (first | (with_reducible first | exact HB.out | apply below_alloc | apply pw_below_drewN | apply below_drew1 | refine below_set ?_ GE296.out | refine below_set ?_ GE299.out) | exact HB.out)⟩⟩
                        · rw [if_neg c25] at H
                          have c25b0 : (((rd_T70 l0 x11_1).f0) == 2) = false := beq_eq_false_iff_ne.mpr c25
                          have c25b1 : (((rd_T70 l0 x11_1).f0) != 2) = true := bne_iff_ne.mpr c25
                          by_cases c35 : ((rd_T70 l0 (ji12)).f0) = 0
                          · rw [if_pos c35] at H
                            have c35b0 : (((rd_T70 l0 (ji12)).f0) == 0) = true := beq_iff_eq.mpr c35
                            have c35b1 : (((rd_T70 l0 (ji12)).f0) != 0) = false := bne_eq_false_iff_eq.mpr c35
                            clear c35
                            replace H := Option.bind_eq_some_iff.mp H
                            obtain ⟨t300, A360, H⟩ := H
                            replace H : (if t300 = true then (some 5) else (chanceryref1_DeltaError.j1 k1 l0 x3_1 x4_1 (l0.length : Int) x11_1 ((rd_T70 l0 x11_1).f0) ((rd_T70 l0 x11_1).f1) ((rd_T70 l0 x11_1).f2) ((rd_T70 l0 x11_1).f3))) = some r := H
                            have A36 := Aside0.mk A360
                            clear A360
                            by_cases c37 : t300 = true
                            · subst c37
                              have H1 : (some 5) = some r := by rw [if_pos rfl] at H; exact H
                              clear H
                              have H := H1
                              clear H1
                              obtain rfl := Option.some.inj H
                              have p298 : 0 ≤ ((ji12) : Int) := of_decide_eq_true (by first | (with_reducible assumption) | assumption)
                              have q298 : (ji12) < (l0.length : Int) := of_decide_eq_true (by first | (with_reducible assumption) | assumption)
                              obtain ⟨ad298, A298_2, c298_2, A298_3, c298_3, e298, hx298_0, hx298_1, hx298_2, hx298_3, hl298_2, hi298_2, hl298_3, hi298_3⟩ := at_T70 HR0.out (ji12) p298 q298
                              obtain rfl : ad295 = ad298 := (by injection e298)
                              replace hx298_0 := (HB.out.cell (World.block_lt_of_cell? w _ hx298_0)).trans hx298_0
                              replace hx298_1 := (HB.out.cell (World.block_lt_of_cell? w _ hx298_1)).trans hx298_1
                              replace hx298_2 := (HB.out.cell (World.block_lt_of_cell? w _ hx298_2)).trans hx298_2
                              replace hx298_3 := (HB.out.cell (World.block_lt_of_cell? w _ hx298_3)).trans hx298_3
                              have HR298_2 := Aside0.mk hi298_2
                              have HC298_2 := Aside0.mk hl298_2
                              clear hi298_2 hl298_2
                              have HR298_3 := Aside0.mk hi298_3
                              have HC298_3 := Aside0.mk hl298_3
                              clear hi298_3 hl298_3
                              replace p298 := eq_true p298
                              replace q298 := eq_true q298
                              go_wp2_with (first | ((with_reducible refine gate_dst (N := 8) rfl ?_); refine box_event ?hg (N := 8) ?hd (cs := #[.int .i64 0, .int .i64 0, .slice none 0 0, .slice none 0 0]) (t := 70) ?hr ?_; (case hd => rfl); (case hg => rfl); (case hr => first | (go_simp; done) | (go_simp; rfl)); intro gb299 hg w38 hbox hb; have n0_ := Aside0.mk (blk_below (g := gb296) (o := .cells #[.int .i64 ((rd_T70 l0 x11_1).f0), .int .i64 ((rd_T70 l0 x11_1).f1), .slice A295_2 ((rd_T70 l0 x11_1).f2).length c295_2, .slice A295_3 ((rd_T70 l0 x11_1).f3).length c295_3] 70 (0, 0)) (by (with_reducible repeat (first | refine blk_drewN ?_ _ | refine blk_drew ?_ | refine blk_alloc ?_ _)); exact BK296.out) hb); have n1_ := Aside0.mk (below_step (by repeat (first | (with_reducible first | exact HB.out | apply below_alloc | apply pw_below_drewN | apply below_drew1 | refine below_set ?_ GE296.out) | exact HB.out)) hb); have n2_ := Aside0.mk (hbox); have n3_ := Aside0.mk ((by rw [hg]; exact (below_size (by repeat (first | (with_reducible first | exact HB.out | apply below_alloc | apply pw_below_drewN | apply below_drew1 | refine below_set ?_ GE296.out) | exact HB.out))) : w.heap.size ≤ gb299)); have n4_ := Aside0.mk ((by rw [hg]; exact (below_size (by repeat (first | (with_reducible first | exact HB.out | apply below_alloc | apply pw_below_drewN | apply below_drew1 | refine below_set ?_ GE296.out) | exact HB.out))) : w.heap.size ≤ gb299)); have n5_ := Aside0.mk ((by rw [hg]; exact Nat.ne_of_lt (blk_lt (g := gb296) (o := .cells #[.int .i64 ((rd_T70 l0 x11_1).f0), .int .i64 ((rd_T70 l0 x11_1).f1), .slice A295_2 ((rd_T70 l0 x11_1).f2).length c295_2, .slice A295_3 ((rd_T70 l0 x11_1).f3).length c295_3] 70 (0, 0)) (by (with_reducible repeat (first | refine blk_drewN ?_ _ | refine blk_drew ?_ | refine blk_alloc ?_ _)); exact BK296.out)) : gb296 ≠ gb299)); have n6_ := Aside0.mk ((by rw [hg]; exact Nat.ne_of_gt (blk_lt (g := gb296) (o := .cells #[.int .i64 ((rd_T70 l0 x11_1).f0), .int .i64 ((rd_T70 l0 x11_1).f1), .slice A295_2 ((rd_T70 l0 x11_1).f2).length c295_2, .slice A295_3 ((rd_T70 l0 x11_1).f3).length c295_3] 70 (0, 0)) (by (with_reducible repeat (first | refine blk_drewN ?_ _ | refine blk_drew ?_ | refine blk_alloc ?_ _)); exact BK296.out)) : gb299 ≠ gb296)); clear BK296; clear HB; have BK296 := n0_; have HB := n1_; have BK299 := n2_; have GW299 := n3_; have GE299 := n4_; have NB296_299 := n5_; have NB299_296 := n6_; clear n0_ n1_ n2_ n3_ n4_ n5_ n6_; clear hb hbox hg; have hnb39 := NB299_296.out; have hnc39 := NB296_299.out; have hcz40_0 : w38.cell? ⟨gb299, 0, none⟩ = some (.int .i64 0) := (blk_cell BK299.out 0).trans rfl; have hcz40_1 : w38.cell? ⟨gb299, 1, none⟩ = some (.int .i64 0) := (blk_cell BK299.out 1).trans rfl; have hcz40_2 : w38.cell? ⟨gb299, 2, none⟩ = some (.slice none 0 0) := (blk_cell BK299.out 2).trans rfl; have hcz40_3 : w38.cell? ⟨gb299, 3, none⟩ = some (.slice none 0 0) := (blk_cell BK299.out 3).trans rfl; have hfz40_0 := blk_frozen BK299.out 0; have hfz40_1 := blk_frozen BK299.out 1; have hfz40_2 := blk_frozen BK299.out 2; have hfz40_3 := blk_frozen BK299.out 3; have hcz41_0 : w38.cell? ⟨gb296, 0, none⟩ = some (.int .i64 ((rd_T70 l0 x11_1).f0)) := (blk_cell BK296.out 0).trans rfl; have hcz41_1 : w38.cell? ⟨gb296, 1, none⟩ = some (.int .i64 ((rd_T70 l0 x11_1).f1)) := (blk_cell BK296.out 1).trans rfl; have hcz41_2 : w38.cell? ⟨gb296, 2, none⟩ = some (.slice A295_2 ((rd_T70 l0 x11_1).f2).length c295_2) := (blk_cell BK296.out 2).trans rfl; have hcz41_3 : w38.cell? ⟨gb296, 3, none⟩ = some (.slice A295_3 ((rd_T70 l0 x11_1).f3).length c295_3) := (blk_cell BK296.out 3).trans rfl; have hfz41_0 := blk_frozen BK296.out 0; have hfz41_1 := blk_frozen BK296.out 1; have hfz41_2 := blk_frozen BK296.out 2; have hfz41_3 := blk_frozen BK296.out 3) | (go_at_call 25; (with_reducible refine (chanceryref1_SameAttrs.calls k1 _ _ ((rd_T70 l0 (ji12)).f2) _ _ ((rd_T70 l0 x11_1).f2) true _ ?side1 ?side2 ?side3 ?side4 A36.out).mono ?_); (case side1 => exact Kd.C_below HR298_2.out (by repeat (first | (with_reducible first | exact HB.out | apply below_alloc | apply pw_below_drewN | apply below_drew1 | refine below_set ?_ GE296.out | refine below_set ?_ GE299.out) | exact HB.out))); (case side2 => exact HC298_2.out); (case side3 => exact Kd.C_below HR295_2.out (by repeat (first | (with_reducible first | exact HB.out | apply below_alloc | apply pw_below_drewN | apply below_drew1 | refine below_set ?_ GE296.out | refine below_set ?_ GE299.out) | exact HB.out))); (case side4 => exact HC295_2.out); rintro e w' ⟨rfl, ⟨nd, rfl⟩⟩))
                              go_ret
                              exact ⟨by first | rfl | (simp [errW_none, errW_some] <;> rfl) | (simp only [← hji12]; first | rfl | (simp [errW_none, errW_some] <;> rfl)) | (simp [*, errW_none, errW_some] <;> rfl), by repeat (first | (with_reducible first | exact HB.out | apply below_alloc | apply pw_below_drewN | apply below_drew1 | refine below_set ?_ GE296.out | refine below_set ?_ GE299.out) | exact HB.out)⟩
                            · replace c37 := Bool.eq_false_iff.mpr c37
                              subst c37
                              have H1 : (chanceryref1_DeltaError.j1 k1 l0 x3_1 x4_1 (l0.length : Int) x11_1 ((rd_T70 l0 x11_1).f0) ((rd_T70 l0 x11_1).f1) ((rd_T70 l0 x11_1).f2) ((rd_T70 l0 x11_1).f3)) = some r := by rw [if_neg (show ¬ (false = true) by decide)] at H; exact H
                              clear H
                              have H := H1
                              clear H1
                              have H' := Aside0.mk H
                              clear H
                              have p298 : 0 ≤ ((ji12) : Int) := of_decide_eq_true (by first | (with_reducible assumption) | assumption)
                              have q298 : (ji12) < (l0.length : Int) := of_decide_eq_true (by first | (with_reducible assumption) | assumption)
                              obtain ⟨ad298, A298_2, c298_2, A298_3, c298_3, e298, hx298_0, hx298_1, hx298_2, hx298_3, hl298_2, hi298_2, hl298_3, hi298_3⟩ := at_T70 HR0.out (ji12) p298 q298
                              obtain rfl : ad295 = ad298 := (by injection e298)
                              replace hx298_0 := (HB.out.cell (World.block_lt_of_cell? w _ hx298_0)).trans hx298_0
                              replace hx298_1 := (HB.out.cell (World.block_lt_of_cell? w _ hx298_1)).trans hx298_1
                              replace hx298_2 := (HB.out.cell (World.block_lt_of_cell? w _ hx298_2)).trans hx298_2
                              replace hx298_3 := (HB.out.cell (World.block_lt_of_cell? w _ hx298_3)).trans hx298_3
                              have HR298_2 := Aside0.mk hi298_2
                              have HC298_2 := Aside0.mk hl298_2
                              clear hi298_2 hl298_2
                              have HR298_3 := Aside0.mk hi298_3
                              have HC298_3 := Aside0.mk hl298_3
                              clear hi298_3 hl298_3
                              replace p298 := eq_true p298
                              replace q298 := eq_true q298
                              go_wp2_with (first | ((with_reducible refine gate_dst (N := 8) rfl ?_); refine box_event ?hg (N := 8) ?hd (cs := #[.int .i64 0, .int .i64 0, .slice none 0 0, .slice none 0 0]) (t := 70) ?hr ?_; (case hd => rfl); (case hg => rfl); (case hr => first | (go_simp; done) | (go_simp; rfl)); intro gb299 hg w42 hbox hb; have n0_ := Aside0.mk (blk_below (g := gb296) (o := .cells #[.int .i64 ((rd_T70 l0 x11_1).f0), .int .i64 ((rd_T70 l0 x11_1).f1), .slice A295_2 ((rd_T70 l0 x11_1).f2).length c295_2, .slice A295_3 ((rd_T70 l0 x11_1).f3).length c295_3] 70 (0, 0)) (by (with_reducible repeat (first | refine blk_drewN ?_ _ | refine blk_drew ?_ | refine blk_alloc ?_ _)); exact BK296.out) hb); have n1_ := Aside0.mk (below_step (by repeat (first | (with_reducible first | exact HB.out | apply below_alloc | apply pw_below_drewN | apply below_drew1 | refine below_set ?_ GE296.out) | exact HB.out)) hb); have n2_ := Aside0.mk (hbox); have n3_ := Aside0.mk ((by rw [hg]; exact (below_size (by repeat (first | (with_reducible first | exact HB.out | apply below_alloc | apply pw_below_drewN | apply below_drew1 | refine below_set ?_ GE296.out) | exact HB.out))) : w.heap.size ≤ gb299)); have n4_ := Aside0.mk ((by rw [hg]; exact (below_size (by repeat (first | (with_reducible first | exact HB.out | apply below_alloc | apply pw_below_drewN | apply below_drew1 | refine below_set ?_ GE296.out) | exact HB.out))) : w.heap.size ≤ gb299)); have n5_ := Aside0.mk ((by rw [hg]; exact Nat.ne_of_lt (blk_lt (g := gb296) (o := .cells #[.int .i64 ((rd_T70 l0 x11_1).f0), .int .i64 ((rd_T70 l0 x11_1).f1), .slice A295_2 ((rd_T70 l0 x11_1).f2).length c295_2, .slice A295_3 ((rd_T70 l0 x11_1).f3).length c295_3] 70 (0, 0)) (by (with_reducible repeat (first | refine blk_drewN ?_ _ | refine blk_drew ?_ | refine blk_alloc ?_ _)); exact BK296.out)) : gb296 ≠ gb299)); have n6_ := Aside0.mk ((by rw [hg]; exact Nat.ne_of_gt (blk_lt (g := gb296) (o := .cells #[.int .i64 ((rd_T70 l0 x11_1).f0), .int .i64 ((rd_T70 l0 x11_1).f1), .slice A295_2 ((rd_T70 l0 x11_1).f2).length c295_2, .slice A295_3 ((rd_T70 l0 x11_1).f3).length c295_3] 70 (0, 0)) (by (with_reducible repeat (first | refine blk_drewN ?_ _ | refine blk_drew ?_ | refine blk_alloc ?_ _)); exact BK296.out)) : gb299 ≠ gb296)); clear BK296; clear HB; have BK296 := n0_; have HB := n1_; have BK299 := n2_; have GW299 := n3_; have GE299 := n4_; have NB296_299 := n5_; have NB299_296 := n6_; clear n0_ n1_ n2_ n3_ n4_ n5_ n6_; clear hb hbox hg; have hnb43 := NB299_296.out; have hnc43 := NB296_299.out; have hcz44_0 : w42.cell? ⟨gb299, 0, none⟩ = some (.int .i64 0) := (blk_cell BK299.out 0).trans rfl; have hcz44_1 : w42.cell? ⟨gb299, 1, none⟩ = some (.int .i64 0) := (blk_cell BK299.out 1).trans rfl; have hcz44_2 : w42.cell? ⟨gb299, 2, none⟩ = some (.slice none 0 0) := (blk_cell BK299.out 2).trans rfl; have hcz44_3 : w42.cell? ⟨gb299, 3, none⟩ = some (.slice none 0 0) := (blk_cell BK299.out 3).trans rfl; have hfz44_0 := blk_frozen BK299.out 0; have hfz44_1 := blk_frozen BK299.out 1; have hfz44_2 := blk_frozen BK299.out 2; have hfz44_3 := blk_frozen BK299.out 3; have hcz45_0 : w42.cell? ⟨gb296, 0, none⟩ = some (.int .i64 ((rd_T70 l0 x11_1).f0)) := (blk_cell BK296.out 0).trans rfl; have hcz45_1 : w42.cell? ⟨gb296, 1, none⟩ = some (.int .i64 ((rd_T70 l0 x11_1).f1)) := (blk_cell BK296.out 1).trans rfl; have hcz45_2 : w42.cell? ⟨gb296, 2, none⟩ = some (.slice A295_2 ((rd_T70 l0 x11_1).f2).length c295_2) := (blk_cell BK296.out 2).trans rfl; have hcz45_3 : w42.cell? ⟨gb296, 3, none⟩ = some (.slice A295_3 ((rd_T70 l0 x11_1).f3).length c295_3) := (blk_cell BK296.out 3).trans rfl; have hfz45_0 := blk_frozen BK296.out 0; have hfz45_1 := blk_frozen BK296.out 1; have hfz45_2 := blk_frozen BK296.out 2; have hfz45_3 := blk_frozen BK296.out 3) | (go_at_call 25; (with_reducible refine (chanceryref1_SameAttrs.calls k1 _ _ ((rd_T70 l0 (ji12)).f2) _ _ ((rd_T70 l0 x11_1).f2) false _ ?side1 ?side2 ?side3 ?side4 A36.out).mono ?_); (case side1 => exact Kd.C_below HR298_2.out (by repeat (first | (with_reducible first | exact HB.out | apply below_alloc | apply pw_below_drewN | apply below_drew1 | refine below_set ?_ GE296.out | refine below_set ?_ GE299.out) | exact HB.out))); (case side2 => exact HC298_2.out); (case side3 => exact Kd.C_below HR295_2.out (by repeat (first | (with_reducible first | exact HB.out | apply below_alloc | apply pw_below_drewN | apply below_drew1 | refine below_set ?_ GE296.out | refine below_set ?_ GE299.out) | exact HB.out))); (case side4 => exact HC295_2.out); rintro e w' ⟨rfl, ⟨nd, rfl⟩⟩))
                              go_meet
                              case rel => exact ⟨_, H', ⟨by have := HK1.out; first | omega | exact Nat.le_refl _⟩, ⟨by (with_reducible repeat (first | refine blk_drewN ?_ _ | refine blk_drew ?_ | refine blk_alloc ?_ _)); refine blk_far ?_ NB296_299.out _; (with_reducible repeat (first | refine blk_drewN ?_ _ | refine blk_drew ?_ | refine blk_alloc ?_ _)); refine blk_far ?_ NB296_299.out _; (with_reducible repeat (first | refine blk_drewN ?_ _ | refine blk_drew ?_ | refine blk_alloc ?_ _)); refine blk_far ?_ NB296_299.out _; (with_reducible repeat (first | refine blk_drewN ?_ _ | refine blk_drew ?_ | refine blk_alloc ?_ _)); refine blk_far ?_ NB296_299.out _; (with_reducible repeat (first | refine blk_drewN ?_ _ | refine blk_drew ?_ | refine blk_alloc ?_ _)); exact BK296.out⟩, ⟨by repeat (first | (with_reducible first | exact HB.out | apply below_alloc | apply pw_below_drewN | apply below_drew1 | refine below_set ?_ GE296.out | refine below_set ?_ GE299.out) | exact HB.out)⟩⟩
                          · rw [if_neg c35] at H
                            have c35b0 : (((rd_T70 l0 (ji12)).f0) == 0) = false := beq_eq_false_iff_ne.mpr c35
                            have c35b1 : (((rd_T70 l0 (ji12)).f0) != 0) = true := bne_iff_ne.mpr c35
                            have H' := Aside0.mk H
                            clear H
                            have p298 : 0 ≤ ((ji12) : Int) := of_decide_eq_true (by first | (with_reducible assumption) | assumption)
                            have q298 : (ji12) < (l0.length : Int) := of_decide_eq_true (by first | (with_reducible assumption) | assumption)
                            obtain ⟨ad298, A298_2, c298_2, A298_3, c298_3, e298, hx298_0, hx298_1, hx298_2, hx298_3, hl298_2, hi298_2, hl298_3, hi298_3⟩ := at_T70 HR0.out (ji12) p298 q298
                            obtain rfl : ad295 = ad298 := (by injection e298)
                            replace hx298_0 := (HB.out.cell (World.block_lt_of_cell? w _ hx298_0)).trans hx298_0
                            replace hx298_1 := (HB.out.cell (World.block_lt_of_cell? w _ hx298_1)).trans hx298_1
                            replace hx298_2 := (HB.out.cell (World.block_lt_of_cell? w _ hx298_2)).trans hx298_2
                            replace hx298_3 := (HB.out.cell (World.block_lt_of_cell? w _ hx298_3)).trans hx298_3
                            have HR298_2 := Aside0.mk hi298_2
                            have HC298_2 := Aside0.mk hl298_2
                            clear hi298_2 hl298_2
                            have HR298_3 := Aside0.mk hi298_3
                            have HC298_3 := Aside0.mk hl298_3
                            clear hi298_3 hl298_3
                            replace p298 := eq_true p298
                            replace q298 := eq_true q298
                            go_wp2_with (first | ((with_reducible refine gate_dst (N := 8) rfl ?_); refine box_event ?hg (N := 8) ?hd (cs := #[.int .i64 0, .int .i64 0, .slice none 0 0, .slice none 0 0]) (t := 70) ?hr ?_; (case hd => rfl); (case hg => rfl); (case hr => first | (go_simp; done) | (go_simp; rfl)); intro gb299 hg w46 hbox hb; have n0_ := Aside0.mk (blk_below (g := gb296) (o := .cells #[.int .i64 ((rd_T70 l0 x11_1).f0), .int .i64 ((rd_T70 l0 x11_1).f1), .slice A295_2 ((rd_T70 l0 x11_1).f2).length c295_2, .slice A295_3 ((rd_T70 l0 x11_1).f3).length c295_3] 70 (0, 0)) (by (with_reducible repeat (first | refine blk_drewN ?_ _ | refine blk_drew ?_ | refine blk_alloc ?_ _)); exact BK296.out) hb); have n1_ := Aside0.mk (below_step (by repeat (first | (with_reducible first | exact HB.out | apply below_alloc | apply pw_below_drewN | apply below_drew1 | refine below_set ?_ GE296.out) | exact HB.out)) hb); have n2_ := Aside0.mk (hbox); have n3_ := Aside0.mk ((by rw [hg]; exact (below_size (by repeat (first | (with_reducible first | exact HB.out | apply below_alloc | apply pw_below_drewN | apply below_drew1 | refine below_set ?_ GE296.out) | exact HB.out))) : w.heap.size ≤ gb299)); have n4_ := Aside0.mk ((by rw [hg]; exact (below_size (by repeat (first | (with_reducible first | exact HB.out | apply below_alloc | apply pw_below_drewN | apply below_drew1 | refine below_set ?_ GE296.out) | exact HB.out))) : w.heap.size ≤ gb299)); have n5_ := Aside0.mk ((by rw [hg]; exact Nat.ne_of_lt (blk_lt (g := gb296) (o := .cells #[.int .i64 ((rd_T70 l0 x11_1).f0), .int .i64 ((rd_T70 l0 x11_1).f1), .slice A295_2 ((rd_T70 l0 x11_1).f2).length c295_2, .slice A295_3 ((rd_T70 l0 x11_1).f3).length c295_3] 70 (0, 0)) (by (with_reducible repeat (first | refine blk_drewN ?_ _ | refine blk_drew ?_ | refine blk_alloc ?_ _)); exact BK296.out)) : gb296 ≠ gb299)); have n6_ := Aside0.mk ((by rw [hg]; exact Nat.ne_of_gt (blk_lt (g := gb296) (o := .cells #[.int .i64 ((rd_T70 l0 x11_1).f0), .int .i64 ((rd_T70 l0 x11_1).f1), .slice A295_2 ((rd_T70 l0 x11_1).f2).length c295_2, .slice A295_3 ((rd_T70 l0 x11_1).f3).length c295_3] 70 (0, 0)) (by (with_reducible repeat (first | refine blk_drewN ?_ _ | refine blk_drew ?_ | refine blk_alloc ?_ _)); exact BK296.out)) : gb299 ≠ gb296)); clear BK296; clear HB; have BK296 := n0_; have HB := n1_; have BK299 := n2_; have GW299 := n3_; have GE299 := n4_; have NB296_299 := n5_; have NB299_296 := n6_; clear n0_ n1_ n2_ n3_ n4_ n5_ n6_; clear hb hbox hg; have hnb47 := NB299_296.out; have hnc47 := NB296_299.out; have hcz48_0 : w46.cell? ⟨gb299, 0, none⟩ = some (.int .i64 0) := (blk_cell BK299.out 0).trans rfl; have hcz48_1 : w46.cell? ⟨gb299, 1, none⟩ = some (.int .i64 0) := (blk_cell BK299.out 1).trans rfl; have hcz48_2 : w46.cell? ⟨gb299, 2, none⟩ = some (.slice none 0 0) := (blk_cell BK299.out 2).trans rfl; have hcz48_3 : w46.cell? ⟨gb299, 3, none⟩ = some (.slice none 0 0) := (blk_cell BK299.out 3).trans rfl; have hfz48_0 := blk_frozen BK299.out 0; have hfz48_1 := blk_frozen BK299.out 1; have hfz48_2 := blk_frozen BK299.out 2; have hfz48_3 := blk_frozen BK299.out 3; have hcz49_0 : w46.cell? ⟨gb296, 0, none⟩ = some (.int .i64 ((rd_T70 l0 x11_1).f0)) := (blk_cell BK296.out 0).trans rfl; have hcz49_1 : w46.cell? ⟨gb296, 1, none⟩ = some (.int .i64 ((rd_T70 l0 x11_1).f1)) := (blk_cell BK296.out 1).trans rfl; have hcz49_2 : w46.cell? ⟨gb296, 2, none⟩ = some (.slice A295_2 ((rd_T70 l0 x11_1).f2).length c295_2) := (blk_cell BK296.out 2).trans rfl; have hcz49_3 : w46.cell? ⟨gb296, 3, none⟩ = some (.slice A295_3 ((rd_T70 l0 x11_1).f3).length c295_3) := (blk_cell BK296.out 3).trans rfl; have hfz49_0 := blk_frozen BK296.out 0; have hfz49_1 := blk_frozen BK296.out 1; have hfz49_2 := blk_frozen BK296.out 2; have hfz49_3 := blk_frozen BK296.out 3))
                            go_meet
                            case rel => exact ⟨_, H', ⟨by have := HK1.out; first | omega | exact Nat.le_refl _⟩, ⟨by (with_reducible repeat (first | refine blk_drewN ?_ _ | refine blk_drew ?_ | refine blk_alloc ?_ _)); refine blk_far ?_ NB296_299.out _; (with_reducible repeat (first | refine blk_drewN ?_ _ | refine blk_drew ?_ | refine blk_alloc ?_ _)); refine blk_far ?_ NB296_299.out _; (with_reducible repeat (first | refine blk_drewN ?_ _ | refine blk_drew ?_ | refine blk_alloc ?_ _)); refine blk_far ?_ NB296_299.out _; (with_reducible repeat (first | refine blk_drewN ?_ _ | refine blk_drew ?_ | refine blk_alloc ?_ _)); refine blk_far ?_ NB296_299.out _; (with_reducible repeat (first | refine blk_drewN ?_ _ | refine blk_drew ?_ | refine blk_alloc ?_ _)); exact BK296.out⟩, ⟨by repeat (first | (with_reducible first | exact HB.out | apply below_alloc | apply pw_below_drewN | apply below_drew1 | refine below_set ?_ GE296.out | refine below_set ?_ GE299.out) | exact HB.out)⟩⟩
                    · rw [if_neg c14] at H
                      exact absurd H (by simp)
                  · rw [if_neg c13] at H
                    exact absurd H (by simp)
                · rw [if_neg c11] at H
                  have c11b0 : decide (0 < x11_1) = false := decide_eq_false c11
                  clear c11
                  (first | rw [c11b0] | (simp only [i64_w, i32_w]; rw [c11b0]) | skip)
                  have H' := Aside0.mk H
                  clear H
                  go_wp2
                  go_meet
                  case rel => exact ⟨_, H', ⟨by have := HK1.out; first | omega | exact Nat.le_refl _⟩, ⟨by (with_reducible repeat (first | refine blk_drewN ?_ _ | refine blk_drew ?_ | refine blk_alloc ?_ _)); exact BK296.out⟩, ⟨by repeat (first | (with_reducible first | exact HB.out | apply below_alloc | apply pw_below_drewN | apply below_drew1 | refine below_set ?_ GE296.out) | exact HB.out)⟩⟩
              case rest =>
                clear HC7
                try clear c1
                try clear c2
                try clear c2b0
                try clear p2
                try clear q2
                try clear hx2
                try clear c3
                try clear c3b0
                try clear c4
                try clear c4b0
                try clear c6
                try clear c6b0
                try clear c6b1
                try clear p6
                try clear c8
                try clear c11
                try clear c11b0
                try clear c13
                try clear c13b0
                try clear c14
                try clear c14b0
                try clear c15
                try clear c15b0
                try clear c15b1
                try clear c16
                try clear c16b0
                try clear c16b1
                try clear c18
                try clear c22
                try clear c25
                try clear c25b0
                try clear c25b1
                try clear c26
                try clear c26b0
                try clear c26b1
                try clear c28
                try clear c29
                try clear p29
                try clear q29
                try clear hx29
                try clear c32
                try clear c35
                try clear c35b0
                try clear c35b1
                try clear c37
                try clear c39
                try clear c43
                try clear c46
                try clear c47
                try clear hcz19_0
                try clear hcz19_1
                try clear hcz19_2
                try clear hcz19_3
                try clear hcz20_0
                try clear hcz20_1
                try clear hcz20_2
                try clear hcz20_3
                try clear hcz23_0
                try clear hcz23_1
                try clear hcz23_2
                try clear hcz23_3
                try clear hcz24_0
                try clear hcz24_1
                try clear hcz24_2
                try clear hcz24_3
                try clear hcz29_0
                try clear hcz29_1
                try clear hcz29_2
                try clear hcz29_3
                try clear hcz30_0
                try clear hcz30_1
                try clear hcz30_2
                try clear hcz30_3
                try clear hcz33_0
                try clear hcz33_1
                try clear hcz33_2
                try clear hcz33_3
                try clear hcz34_0
                try clear hcz34_1
                try clear hcz34_2
                try clear hcz34_3
                try clear hcz40_0
                try clear hcz40_1
                try clear hcz40_2
                try clear hcz40_3
                try clear hcz41_0
                try clear hcz41_1
                try clear hcz41_2
                try clear hcz41_3
                try clear hcz44_0
                try clear hcz44_1
                try clear hcz44_2
                try clear hcz44_3
                try clear hcz45_0
                try clear hcz45_1
                try clear hcz45_2
                try clear hcz45_3
                try clear hcz48_0
                try clear hcz48_1
                try clear hcz48_2
                try clear hcz48_3
                try clear hcz49_0
                try clear hcz49_1
                try clear hcz49_2
                try clear hcz49_3
                try clear hcz9_0
                try clear hcz9_1
                try clear hcz9_2
                try clear hcz9_3
                try clear hfz19_0
                try clear hfz19_1
                try clear hfz19_2
                try clear hfz19_3
                try clear hfz20_0
                try clear hfz20_1
                try clear hfz20_2
                try clear hfz20_3
                try clear hfz23_0
                try clear hfz23_1
                try clear hfz23_2
                try clear hfz23_3
                try clear hfz24_0
                try clear hfz24_1
                try clear hfz24_2
                try clear hfz24_3
                try clear hfz29_0
                try clear hfz29_1
                try clear hfz29_2
                try clear hfz29_3
                try clear hfz30_0
                try clear hfz30_1
                try clear hfz30_2
                try clear hfz30_3
                try clear hfz33_0
                try clear hfz33_1
                try clear hfz33_2
                try clear hfz33_3
                try clear hfz34_0
                try clear hfz34_1
                try clear hfz34_2
                try clear hfz34_3
                try clear hfz40_0
                try clear hfz40_1
                try clear hfz40_2
                try clear hfz40_3
                try clear hfz41_0
                try clear hfz41_1
                try clear hfz41_2
                try clear hfz41_3
                try clear hfz44_0
                try clear hfz44_1
                try clear hfz44_2
                try clear hfz44_3
                try clear hfz45_0
                try clear hfz45_1
                try clear hfz45_2
                try clear hfz45_3
                try clear hfz48_0
                try clear hfz48_1
                try clear hfz48_2
                try clear hfz48_3
                try clear hfz49_0
                try clear hfz49_1
                try clear hfz49_2
                try clear hfz49_3
                try clear hfz9_0
                try clear hfz9_1
                try clear hfz9_2
                try clear hfz9_3
                try clear hx295_0
                try clear hx295_1
                try clear hx295_2
                try clear hx295_3
                try clear hx298_0
                try clear hx298_1
                try clear hx298_2
                try clear hx298_3
                try clear p295
                try clear p298
                try clear q295
                try clear q298
                obtain ⟨kq, HA, HJ6, BK296, HB⟩ := hcut
                cases kq with
                | zero => exact absurd HA.out (by simp [chanceryref1_DeltaError.j1])
                | succ kj6 =>
                  have H := HA.out
                  clear HA
                  simp only [chanceryref1_DeltaError.j1] at H
                  have HC50 := Aside0.mk H
                  clear H
                  go_upto_region 20 with (fail)
                  go_cut [58] (fun v58 wc => ∃ (kq : Nat) (x58_49 : Bool), v58 = .bool x58_49 ∧ Aside0 (chanceryref1_DeltaError.j2 kq l0 x3_1 x4_1 (l0.length : Int) x11_1 x58_49 ((rd_T70 l0 x11_1).f0) ((rd_T70 l0 x11_1).f1) ((rd_T70 l0 x11_1).f2) ((rd_T70 l0 x11_1).f3) = some r) ∧ Aside0 (kq ≤ kj6) ∧ Aside0 (wc.heap[gb296]? = some (.cells #[.int .i64 ((rd_T70 l0 x11_1).f0), .int .i64 ((rd_T70 l0 x11_1).f1), (.slice A295_2 ((rd_T70 l0 x11_1).f2).length c295_2), (.slice A295_3 ((rd_T70 l0 x11_1).f3).length c295_3)] 70 (0, 0))) ∧ Aside0 (Below w.heap.size w wc))
                  case first =>
                    have H := HC50.out
                    clear HC50
                    by_cases c51 : ((rd_T70 l0 x11_1).f0) = 1
                    · rw [if_pos c51] at H
                      have c51b0 : (((rd_T70 l0 x11_1).f0) == 1) = true := beq_iff_eq.mpr c51
                      have c51b1 : (((rd_T70 l0 x11_1).f0) != 1) = false := bne_eq_false_iff_eq.mpr c51
                      clear c51
                      (first | rw [c51b0] | (simp only [i64_w, i32_w]; rw [c51b0]) | skip)
                      have H' := Aside0.mk H
                      clear H
                      have hcz52_0 : wc.cell? ⟨gb296, 0, none⟩ = some (.int .i64 ((rd_T70 l0 x11_1).f0)) := (blk_cell BK296.out 0).trans rfl
                      have hcz52_1 : wc.cell? ⟨gb296, 1, none⟩ = some (.int .i64 ((rd_T70 l0 x11_1).f1)) := (blk_cell BK296.out 1).trans rfl
                      have hcz52_2 : wc.cell? ⟨gb296, 2, none⟩ = some (.slice A295_2 ((rd_T70 l0 x11_1).f2).length c295_2) := (blk_cell BK296.out 2).trans rfl
                      have hcz52_3 : wc.cell? ⟨gb296, 3, none⟩ = some (.slice A295_3 ((rd_T70 l0 x11_1).f3).length c295_3) := (blk_cell BK296.out 3).trans rfl
                      have hfz52_0 := blk_frozen BK296.out 0
                      have hfz52_1 := blk_frozen BK296.out 1
                      have hfz52_2 := blk_frozen BK296.out 2
                      have hfz52_3 := blk_frozen BK296.out 3
                      go_wp2
                      go_meet
                      case rel => exact ⟨_, (false), (by first | rfl | (simp; done) | (simp [*]; done)), H', ⟨by have := HK1.out; have := HJ6.out; first | omega | exact Nat.le_refl _⟩, ⟨by (with_reducible repeat (first | refine blk_drewN ?_ _ | refine blk_drew ?_ | refine blk_alloc ?_ _)); exact BK296.out⟩, ⟨by repeat (first | (with_reducible first | exact HB.out | apply below_alloc | apply pw_below_drewN | apply below_drew1 | refine below_set ?_ GE296.out) | exact HB.out)⟩⟩
                    · rw [if_neg c51] at H
                      have c51b0 : (((rd_T70 l0 x11_1).f0) == 1) = false := beq_eq_false_iff_ne.mpr c51
                      have c51b1 : (((rd_T70 l0 x11_1).f0) != 1) = true := bne_iff_ne.mpr c51
                      (first | rw [c51b0] | (simp only [i64_w, i32_w]; rw [c51b0]) | skip)
                      have H' := Aside0.mk H
                      clear H
                      have hcz53_0 : wc.cell? ⟨gb296, 0, none⟩ = some (.int .i64 ((rd_T70 l0 x11_1).f0)) := (blk_cell BK296.out 0).trans rfl
                      have hcz53_1 : wc.cell? ⟨gb296, 1, none⟩ = some (.int .i64 ((rd_T70 l0 x11_1).f1)) := (blk_cell BK296.out 1).trans rfl
                      have hcz53_2 : wc.cell? ⟨gb296, 2, none⟩ = some (.slice A295_2 ((rd_T70 l0 x11_1).f2).length c295_2) := (blk_cell BK296.out 2).trans rfl
                      have hcz53_3 : wc.cell? ⟨gb296, 3, none⟩ = some (.slice A295_3 ((rd_T70 l0 x11_1).f3).length c295_3) := (blk_cell BK296.out 3).trans rfl
                      have hfz53_0 := blk_frozen BK296.out 0
                      have hfz53_1 := blk_frozen BK296.out 1
                      have hfz53_2 := blk_frozen BK296.out 2
                      have hfz53_3 := blk_frozen BK296.out 3
                      go_wp2
                      go_meet
                      case rel => exact ⟨_, (decide (x3_1 < 2147483648)), (by first | rfl | (simp; done) | (simp [*]; done)), H', ⟨by have := HK1.out; have := HJ6.out; first | omega | exact Nat.le_refl _⟩, ⟨by (with_reducible repeat (first | refine blk_drewN ?_ _ | refine blk_drew ?_ | refine blk_alloc ?_ _)); exact BK296.out⟩, ⟨by repeat (first | (with_reducible first | exact HB.out | apply below_alloc | apply pw_below_drewN | apply below_drew1 | refine below_set ?_ GE296.out) | exact HB.out)⟩⟩
                  case rest =>
                    clear HC50
                    try clear c1
                    try clear c2
                    try clear c2b0
                    try clear p2
                    try clear q2
                    try clear hx2
                    try clear c3
                    try clear c3b0
                    try clear c4
                    try clear c4b0
                    try clear c5
                    try clear c6
                    try clear c6b0
                    try clear c6b1
                    try clear p6
                    try clear c8
                    try clear c11
                    try clear c11b0
                    try clear c13
                    try clear c13b0
                    try clear c14
                    try clear c14b0
                    try clear c15
                    try clear c15b0
                    try clear c15b1
                    try clear c16
                    try clear c16b0
                    try clear c16b1
                    try clear c18
                    try clear c22
                    try clear c25
                    try clear c25b0
                    try clear c25b1
                    try clear c26
                    try clear c26b0
                    try clear c26b1
                    try clear c28
                    try clear c29
                    try clear p29
                    try clear q29
                    try clear hx29
                    try clear c32
                    try clear c35
                    try clear c35b0
                    try clear c35b1
                    try clear c37
                    try clear c39
                    try clear c43
                    try clear c46
                    try clear c47
                    try clear c51
                    try clear c51b0
                    try clear c51b1
                    try clear hcz19_0
                    try clear hcz19_1
                    try clear hcz19_2
                    try clear hcz19_3
                    try clear hcz20_0
                    try clear hcz20_1
                    try clear hcz20_2
                    try clear hcz20_3
                    try clear hcz23_0
                    try clear hcz23_1
                    try clear hcz23_2
                    try clear hcz23_3
                    try clear hcz24_0
                    try clear hcz24_1
                    try clear hcz24_2
                    try clear hcz24_3
                    try clear hcz29_0
                    try clear hcz29_1
                    try clear hcz29_2
                    try clear hcz29_3
                    try clear hcz30_0
                    try clear hcz30_1
                    try clear hcz30_2
                    try clear hcz30_3
                    try clear hcz33_0
                    try clear hcz33_1
                    try clear hcz33_2
                    try clear hcz33_3
                    try clear hcz34_0
                    try clear hcz34_1
                    try clear hcz34_2
                    try clear hcz34_3
                    try clear hcz40_0
                    try clear hcz40_1
                    try clear hcz40_2
                    try clear hcz40_3
                    try clear hcz41_0
                    try clear hcz41_1
                    try clear hcz41_2
                    try clear hcz41_3
                    try clear hcz44_0
                    try clear hcz44_1
                    try clear hcz44_2
                    try clear hcz44_3
                    try clear hcz45_0
                    try clear hcz45_1
                    try clear hcz45_2
                    try clear hcz45_3
                    try clear hcz48_0
                    try clear hcz48_1
                    try clear hcz48_2
                    try clear hcz48_3
                    try clear hcz49_0
                    try clear hcz49_1
                    try clear hcz49_2
                    try clear hcz49_3
                    try clear hcz52_0
                    try clear hcz52_1
                    try clear hcz52_2
                    try clear hcz52_3
                    try clear hcz53_0
                    try clear hcz53_1
                    try clear hcz53_2
                    try clear hcz53_3
                    try clear hcz9_0
                    try clear hcz9_1
                    try clear hcz9_2
                    try clear hcz9_3
                    try clear hfz19_0
                    try clear hfz19_1
                    try clear hfz19_2
                    try clear hfz19_3
                    try clear hfz20_0
                    try clear hfz20_1
                    try clear hfz20_2
                    try clear hfz20_3
                    try clear hfz23_0
                    try clear hfz23_1
                    try clear hfz23_2
                    try clear hfz23_3
                    try clear hfz24_0
                    try clear hfz24_1
                    try clear hfz24_2
                    try clear hfz24_3
                    try clear hfz29_0
                    try clear hfz29_1
                    try clear hfz29_2
                    try clear hfz29_3
                    try clear hfz30_0
                    try clear hfz30_1
                    try clear hfz30_2
                    try clear hfz30_3
                    try clear hfz33_0
                    try clear hfz33_1
                    try clear hfz33_2
                    try clear hfz33_3
                    try clear hfz34_0
                    try clear hfz34_1
                    try clear hfz34_2
                    try clear hfz34_3
                    try clear hfz40_0
                    try clear hfz40_1
                    try clear hfz40_2
                    try clear hfz40_3
                    try clear hfz41_0
                    try clear hfz41_1
                    try clear hfz41_2
                    try clear hfz41_3
                    try clear hfz44_0
                    try clear hfz44_1
                    try clear hfz44_2
                    try clear hfz44_3
                    try clear hfz45_0
                    try clear hfz45_1
                    try clear hfz45_2
                    try clear hfz45_3
                    try clear hfz48_0
                    try clear hfz48_1
                    try clear hfz48_2
                    try clear hfz48_3
                    try clear hfz49_0
                    try clear hfz49_1
                    try clear hfz49_2
                    try clear hfz49_3
                    try clear hfz52_0
                    try clear hfz52_1
                    try clear hfz52_2
                    try clear hfz52_3
                    try clear hfz53_0
                    try clear hfz53_1
                    try clear hfz53_2
                    try clear hfz53_3
                    try clear hfz9_0
                    try clear hfz9_1
                    try clear hfz9_2
                    try clear hfz9_3
                    try clear hx295_0
                    try clear hx295_1
                    try clear hx295_2
                    try clear hx295_3
                    try clear hx298_0
                    try clear hx298_1
                    try clear hx298_2
                    try clear hx298_3
                    try clear p2
                    try clear p29
                    try clear p295
                    try clear p298
                    try clear p6
                    try clear q2
                    try clear q29
                    try clear q295
                    try clear q298
                    obtain ⟨kq, x58_49, rfl, HA, HJ49, BK296, HB⟩ := hcut
                    cases kq with
                    | zero => exact absurd HA.out (by simp [chanceryref1_DeltaError.j2])
                    | succ kj49 =>
                      have H := HA.out
                      clear HA
                      simp only [chanceryref1_DeltaError.j2] at H
                      by_cases c54 : x58_49 = true
                      · subst c54
                        have H1 : (if ((rd_T70 l0 x11_1).f0) = 2 then (chanceryref1_DeltaError.l0 kj49 l0 (wrap64 (x3_1 + ((rd_T70 l0 x11_1).f1))) x4_1 (l0.length : Int) (wrap64 (x11_1 + 1))) else (if x4_1 < 2147483648 then (chanceryref1_DeltaError.l0 kj49 l0 (wrap64 (x3_1 + ((rd_T70 l0 x11_1).f1))) (wrap64 (x4_1 + (wrap64 (((rd_T70 l0 x11_1).f1) + (((rd_T70 l0 x11_1).f3).length : Int))))) (l0.length : Int) (wrap64 (x11_1 + 1))) else (chanceryref1_DeltaError.l0 kj49 l0 (wrap64 (x3_1 + ((rd_T70 l0 x11_1).f1))) x4_1 (l0.length : Int) (wrap64 (x11_1 + 1))))) = some r := by rw [if_pos rfl] at H; exact H
                        clear H
                        have H := H1
                        clear H1
                        by_cases c55 : ((rd_T70 l0 x11_1).f0) = 2
                        · rw [if_pos c55] at H
                          have c55b0 : (((rd_T70 l0 x11_1).f0) == 2) = true := beq_iff_eq.mpr c55
                          have c55b1 : (((rd_T70 l0 x11_1).f0) != 2) = false := bne_eq_false_iff_eq.mpr c55
                          clear c55
                          have H' := Aside0.mk H
                          clear H
                          have hcz56_0 : wc.cell? ⟨gb296, 0, none⟩ = some (.int .i64 ((rd_T70 l0 x11_1).f0)) := (blk_cell BK296.out 0).trans rfl
                          have hcz56_1 : wc.cell? ⟨gb296, 1, none⟩ = some (.int .i64 ((rd_T70 l0 x11_1).f1)) := (blk_cell BK296.out 1).trans rfl
                          have hcz56_2 : wc.cell? ⟨gb296, 2, none⟩ = some (.slice A295_2 ((rd_T70 l0 x11_1).f2).length c295_2) := (blk_cell BK296.out 2).trans rfl
                          have hcz56_3 : wc.cell? ⟨gb296, 3, none⟩ = some (.slice A295_3 ((rd_T70 l0 x11_1).f3).length c295_3) := (blk_cell BK296.out 3).trans rfl
                          have hfz56_0 := blk_frozen BK296.out 0
                          have hfz56_1 := blk_frozen BK296.out 1
                          have hfz56_2 := blk_frozen BK296.out 2
                          have hfz56_3 := blk_frozen BK296.out 3
                          go_wp2
                          go_roundg kj49
                          case measure => have := HK1.out; have := HJ6.out; have := HJ49.out; omega
                          case rel => exact ⟨(wrap64 (x3_1 + ((rd_T70 l0 x11_1).f1))), (x4_1), (wrap64 (x11_1 + 1)), (by first | rfl | (simp; done) | (simp [*]; done)), (by first | rfl | (simp; done) | (simp [*]; done)), (by first | rfl | (simp; done) | (simp [*]; done)), H', ⟨by have := HK1.out; have := HJ6.out; have := HJ49.out; omega⟩, ⟨by repeat (first | (with_reducible first | exact HB.out | apply below_alloc | apply pw_below_drewN | apply below_drew1 | refine below_set ?_ GE296.out) | exact HB.out)⟩⟩
                        · rw [if_neg c55] at H
                          have c55b0 : (((rd_T70 l0 x11_1).f0) == 2) = false := beq_eq_false_iff_ne.mpr c55
                          have c55b1 : (((rd_T70 l0 x11_1).f0) != 2) = true := bne_iff_ne.mpr c55
                          by_cases c57 : x4_1 < 2147483648
                          · rw [if_pos c57] at H
                            have c57b0 : decide (x4_1 < 2147483648) = true := decide_eq_true c57
                            clear c57
                            have H' := Aside0.mk H
                            clear H
                            have hcz58_0 : wc.cell? ⟨gb296, 0, none⟩ = some (.int .i64 ((rd_T70 l0 x11_1).f0)) := (blk_cell BK296.out 0).trans rfl
                            have hcz58_1 : wc.cell? ⟨gb296, 1, none⟩ = some (.int .i64 ((rd_T70 l0 x11_1).f1)) := (blk_cell BK296.out 1).trans rfl
                            have hcz58_2 : wc.cell? ⟨gb296, 2, none⟩ = some (.slice A295_2 ((rd_T70 l0 x11_1).f2).length c295_2) := (blk_cell BK296.out 2).trans rfl
                            have hcz58_3 : wc.cell? ⟨gb296, 3, none⟩ = some (.slice A295_3 ((rd_T70 l0 x11_1).f3).length c295_3) := (blk_cell BK296.out 3).trans rfl
                            have hfz58_0 := blk_frozen BK296.out 0
                            have hfz58_1 := blk_frozen BK296.out 1
                            have hfz58_2 := blk_frozen BK296.out 2
                            have hfz58_3 := blk_frozen BK296.out 3
                            go_wp2
                            go_roundg kj49
                            case measure => have := HK1.out; have := HJ6.out; have := HJ49.out; omega
                            case rel => exact ⟨(wrap64 (x3_1 + ((rd_T70 l0 x11_1).f1))), (wrap64 (x4_1 + (wrap64 (((rd_T70 l0 x11_1).f1) + (((rd_T70 l0 x11_1).f3).length : Int))))), (wrap64 (x11_1 + 1)), (by first | rfl | (simp; done) | (simp [*]; done)), (by first | rfl | (simp; done) | (simp [*]; done)), (by first | rfl | (simp; done) | (simp [*]; done)), H', ⟨by have := HK1.out; have := HJ6.out; have := HJ49.out; omega⟩, ⟨by repeat (first | (with_reducible first | exact HB.out | apply below_alloc | apply pw_below_drewN | apply below_drew1 | refine below_set ?_ GE296.out) | exact HB.out)⟩⟩
                          · rw [if_neg c57] at H
                            have c57b0 : decide (x4_1 < 2147483648) = false := decide_eq_false c57
                            clear c57
                            have H' := Aside0.mk H
                            clear H
                            have hcz59_0 : wc.cell? ⟨gb296, 0, none⟩ = some (.int .i64 ((rd_T70 l0 x11_1).f0)) := (blk_cell BK296.out 0).trans rfl
                            have hcz59_1 : wc.cell? ⟨gb296, 1, none⟩ = some (.int .i64 ((rd_T70 l0 x11_1).f1)) := (blk_cell BK296.out 1).trans rfl
                            have hcz59_2 : wc.cell? ⟨gb296, 2, none⟩ = some (.slice A295_2 ((rd_T70 l0 x11_1).f2).length c295_2) := (blk_cell BK296.out 2).trans rfl
                            have hcz59_3 : wc.cell? ⟨gb296, 3, none⟩ = some (.slice A295_3 ((rd_T70 l0 x11_1).f3).length c295_3) := (blk_cell BK296.out 3).trans rfl
                            have hfz59_0 := blk_frozen BK296.out 0
                            have hfz59_1 := blk_frozen BK296.out 1
                            have hfz59_2 := blk_frozen BK296.out 2
                            have hfz59_3 := blk_frozen BK296.out 3
                            go_wp2
                            go_roundg kj49
                            case measure => have := HK1.out; have := HJ6.out; have := HJ49.out; omega
                            case rel => exact ⟨(wrap64 (x3_1 + ((rd_T70 l0 x11_1).f1))), (x4_1), (wrap64 (x11_1 + 1)), (by first | rfl | (simp; done) | (simp [*]; done)), (by first | rfl | (simp; done) | (simp [*]; done)), (by first | rfl | (simp; done) | (simp [*]; done)), H', ⟨by have := HK1.out; have := HJ6.out; have := HJ49.out; omega⟩, ⟨by repeat (first | (with_reducible first | exact HB.out | apply below_alloc | apply pw_below_drewN | apply below_drew1 | refine below_set ?_ GE296.out) | exact HB.out)⟩⟩
                      · replace c54 := Bool.eq_false_iff.mpr c54
                        subst c54
                        have H1 : (if ((rd_T70 l0 x11_1).f0) = 2 then (chanceryref1_DeltaError.l0 kj49 l0 x3_1 x4_1 (l0.length : Int) (wrap64 (x11_1 + 1))) else (if x4_1 < 2147483648 then (chanceryref1_DeltaError.l0 kj49 l0 x3_1 (wrap64 (x4_1 + (wrap64 (((rd_T70 l0 x11_1).f1) + (((rd_T70 l0 x11_1).f3).length : Int))))) (l0.length : Int) (wrap64 (x11_1 + 1))) else (chanceryref1_DeltaError.l0 kj49 l0 x3_1 x4_1 (l0.length : Int) (wrap64 (x11_1 + 1))))) = some r := by rw [if_neg (show ¬ (false = true) by decide)] at H; exact H
                        clear H
                        have H := H1
                        clear H1
                        by_cases c60 : ((rd_T70 l0 x11_1).f0) = 2
                        · rw [if_pos c60] at H
                          have c60b0 : (((rd_T70 l0 x11_1).f0) == 2) = true := beq_iff_eq.mpr c60
                          have c60b1 : (((rd_T70 l0 x11_1).f0) != 2) = false := bne_eq_false_iff_eq.mpr c60
                          clear c60
                          have H' := Aside0.mk H
                          clear H
                          have hcz61_0 : wc.cell? ⟨gb296, 0, none⟩ = some (.int .i64 ((rd_T70 l0 x11_1).f0)) := (blk_cell BK296.out 0).trans rfl
                          have hcz61_1 : wc.cell? ⟨gb296, 1, none⟩ = some (.int .i64 ((rd_T70 l0 x11_1).f1)) := (blk_cell BK296.out 1).trans rfl
                          have hcz61_2 : wc.cell? ⟨gb296, 2, none⟩ = some (.slice A295_2 ((rd_T70 l0 x11_1).f2).length c295_2) := (blk_cell BK296.out 2).trans rfl
                          have hcz61_3 : wc.cell? ⟨gb296, 3, none⟩ = some (.slice A295_3 ((rd_T70 l0 x11_1).f3).length c295_3) := (blk_cell BK296.out 3).trans rfl
                          have hfz61_0 := blk_frozen BK296.out 0
                          have hfz61_1 := blk_frozen BK296.out 1
                          have hfz61_2 := blk_frozen BK296.out 2
                          have hfz61_3 := blk_frozen BK296.out 3
                          go_wp2
                          go_roundg kj49
                          case measure => have := HK1.out; have := HJ6.out; have := HJ49.out; omega
                          case rel => exact ⟨(x3_1), (x4_1), (wrap64 (x11_1 + 1)), (by first | rfl | (simp; done) | (simp [*]; done)), (by first | rfl | (simp; done) | (simp [*]; done)), (by first | rfl | (simp; done) | (simp [*]; done)), H', ⟨by have := HK1.out; have := HJ6.out; have := HJ49.out; omega⟩, ⟨by repeat (first | (with_reducible first | exact HB.out | apply below_alloc | apply pw_below_drewN | apply below_drew1 | refine below_set ?_ GE296.out) | exact HB.out)⟩⟩
                        · rw [if_neg c60] at H
                          have c60b0 : (((rd_T70 l0 x11_1).f0) == 2) = false := beq_eq_false_iff_ne.mpr c60
                          have c60b1 : (((rd_T70 l0 x11_1).f0) != 2) = true := bne_iff_ne.mpr c60
                          by_cases c62 : x4_1 < 2147483648
                          · rw [if_pos c62] at H
                            have c62b0 : decide (x4_1 < 2147483648) = true := decide_eq_true c62
                            clear c62
                            have H' := Aside0.mk H
                            clear H
                            have hcz63_0 : wc.cell? ⟨gb296, 0, none⟩ = some (.int .i64 ((rd_T70 l0 x11_1).f0)) := (blk_cell BK296.out 0).trans rfl
                            have hcz63_1 : wc.cell? ⟨gb296, 1, none⟩ = some (.int .i64 ((rd_T70 l0 x11_1).f1)) := (blk_cell BK296.out 1).trans rfl
                            have hcz63_2 : wc.cell? ⟨gb296, 2, none⟩ = some (.slice A295_2 ((rd_T70 l0 x11_1).f2).length c295_2) := (blk_cell BK296.out 2).trans rfl
                            have hcz63_3 : wc.cell? ⟨gb296, 3, none⟩ = some (.slice A295_3 ((rd_T70 l0 x11_1).f3).length c295_3) := (blk_cell BK296.out 3).trans rfl
                            have hfz63_0 := blk_frozen BK296.out 0
                            have hfz63_1 := blk_frozen BK296.out 1
                            have hfz63_2 := blk_frozen BK296.out 2
                            have hfz63_3 := blk_frozen BK296.out 3
                            go_wp2
                            go_roundg kj49
                            case measure => have := HK1.out; have := HJ6.out; have := HJ49.out; omega
                            case rel => exact ⟨(x3_1), (wrap64 (x4_1 + (wrap64 (((rd_T70 l0 x11_1).f1) + (((rd_T70 l0 x11_1).f3).length : Int))))), (wrap64 (x11_1 + 1)), (by first | rfl | (simp; done) | (simp [*]; done)), (by first | rfl | (simp; done) | (simp [*]; done)), (by first | rfl | (simp; done) | (simp [*]; done)), H', ⟨by have := HK1.out; have := HJ6.out; have := HJ49.out; omega⟩, ⟨by repeat (first | (with_reducible first | exact HB.out | apply below_alloc | apply pw_below_drewN | apply below_drew1 | refine below_set ?_ GE296.out) | exact HB.out)⟩⟩
                          · rw [if_neg c62] at H
                            have c62b0 : decide (x4_1 < 2147483648) = false := decide_eq_false c62
                            clear c62
                            have H' := Aside0.mk H
                            clear H
                            have hcz64_0 : wc.cell? ⟨gb296, 0, none⟩ = some (.int .i64 ((rd_T70 l0 x11_1).f0)) := (blk_cell BK296.out 0).trans rfl
                            have hcz64_1 : wc.cell? ⟨gb296, 1, none⟩ = some (.int .i64 ((rd_T70 l0 x11_1).f1)) := (blk_cell BK296.out 1).trans rfl
                            have hcz64_2 : wc.cell? ⟨gb296, 2, none⟩ = some (.slice A295_2 ((rd_T70 l0 x11_1).f2).length c295_2) := (blk_cell BK296.out 2).trans rfl
                            have hcz64_3 : wc.cell? ⟨gb296, 3, none⟩ = some (.slice A295_3 ((rd_T70 l0 x11_1).f3).length c295_3) := (blk_cell BK296.out 3).trans rfl
                            have hfz64_0 := blk_frozen BK296.out 0
                            have hfz64_1 := blk_frozen BK296.out 1
                            have hfz64_2 := blk_frozen BK296.out 2
                            have hfz64_3 := blk_frozen BK296.out 3
                            go_wp2
                            go_roundg kj49
                            case measure => have := HK1.out; have := HJ6.out; have := HJ49.out; omega
                            case rel => exact ⟨(x3_1), (x4_1), (wrap64 (x11_1 + 1)), (by first | rfl | (simp; done) | (simp [*]; done)), (by first | rfl | (simp; done) | (simp [*]; done)), (by first | rfl | (simp; done) | (simp [*]; done)), H', ⟨by have := HK1.out; have := HJ6.out; have := HJ49.out; omega⟩, ⟨by repeat (first | (with_reducible first | exact HB.out | apply below_alloc | apply pw_below_drewN | apply below_drew1 | refine below_set ?_ GE296.out) | exact HB.out)⟩⟩
            · rw [if_neg c6] at H
              have c6b0 : (t297 == 0) = false := beq_eq_false_iff_ne.mpr c6
              have c6b1 : (t297 != 0) = true := bne_iff_ne.mpr c6
              obtain rfl := Option.some.inj H
              have p295 : 0 ≤ (x11_1 : Int) := of_decide_eq_true (by first | (with_reducible assumption) | assumption)
              have q295 : x11_1 < (l0.length : Int) := of_decide_eq_true (by first | (with_reducible assumption) | assumption)
              obtain ⟨ad295, A295_2, c295_2, A295_3, c295_3, e295, hx295_0, hx295_1, hx295_2, hx295_3, hl295_2, hi295_2, hl295_3, hi295_3⟩ := at_T70 HR0.out x11_1 p295 q295
              cases e295
              replace hx295_0 := (HB.out.cell (World.block_lt_of_cell? w _ hx295_0)).trans hx295_0
              replace hx295_1 := (HB.out.cell (World.block_lt_of_cell? w _ hx295_1)).trans hx295_1
              replace hx295_2 := (HB.out.cell (World.block_lt_of_cell? w _ hx295_2)).trans hx295_2
              replace hx295_3 := (HB.out.cell (World.block_lt_of_cell? w _ hx295_3)).trans hx295_3
              have HR295_2 := Aside0.mk hi295_2
              have HC295_2 := Aside0.mk hl295_2
              clear hi295_2 hl295_2
              have HR295_3 := Aside0.mk hi295_3
              have HC295_3 := Aside0.mk hl295_3
              clear hi295_3 hl295_3
              replace p295 := eq_true p295
              replace q295 := eq_true q295
              go_wp2_with (first | ((with_reducible refine gate_dst (N := 6) rfl ?_); refine box_event ?hg (N := 6) ?hd (cs := #[.int .i64 0, .int .i64 0, .slice none 0 0, .slice none 0 0]) (t := 70) ?hr ?_; (case hd => rfl); (case hg => rfl); (case hr => first | (go_simp; done) | (go_simp; rfl)); intro gb296 hg w65 hbox hb; have n0_ := Aside0.mk (below_step (by with_reducible repeat first | exact HB.out | apply below_alloc | apply pw_below_drewN | apply below_drew1) hb); have n1_ := Aside0.mk (hbox); have n2_ := Aside0.mk ((by rw [hg]; exact (below_size (by with_reducible repeat first | exact HB.out | apply below_alloc | apply pw_below_drewN | apply below_drew1)) : w.heap.size ≤ gb296)); have n3_ := Aside0.mk ((by rw [hg]; exact (below_size (by with_reducible repeat first | exact HB.out | apply below_alloc | apply pw_below_drewN | apply below_drew1)) : w.heap.size ≤ gb296)); clear HB; have HB := n0_; have BK296 := n1_; have GW296 := n2_; have GE296 := n3_; clear n0_ n1_ n2_ n3_; clear hb hbox hg; have hcz66_0 : w65.cell? ⟨gb296, 0, none⟩ = some (.int .i64 0) := (blk_cell BK296.out 0).trans rfl; have hcz66_1 : w65.cell? ⟨gb296, 1, none⟩ = some (.int .i64 0) := (blk_cell BK296.out 1).trans rfl; have hcz66_2 : w65.cell? ⟨gb296, 2, none⟩ = some (.slice none 0 0) := (blk_cell BK296.out 2).trans rfl; have hcz66_3 : w65.cell? ⟨gb296, 3, none⟩ = some (.slice none 0 0) := (blk_cell BK296.out 3).trans rfl; have hfz66_0 := blk_frozen BK296.out 0; have hfz66_1 := blk_frozen BK296.out 1; have hfz66_2 := blk_frozen BK296.out 2; have hfz66_3 := blk_frozen BK296.out 3) | ((with_reducible refine gate_callee (f := 89) rfl ?_); refine goesL_ (some 19) rfl rfl Try.func89 (by kernel_rfl) rfl #[.agg #[.int .i64 ((rd_T70 l0 x11_1).f0), .int .i64 ((rd_T70 l0 x11_1).f1), .slice A295_2 ((rd_T70 l0 x11_1).f2).length c295_2, .slice A295_3 ((rd_T70 l0 x11_1).f3).length c295_3]] rfl (by (try simp only [List.map_toArray, List.map_cons, List.map_nil]); first | done | rfl | (simp only [List.length_drop, List.length_take]; rfl)) ?_; (with_reducible refine (chanceryref1_StepError.calls k1 ((rd_T70 l0 x11_1).f0) ((rd_T70 l0 x11_1).f1) _ _ ((rd_T70 l0 x11_1).f2) _ _ ((rd_T70 l0 x11_1).f3) t297 _ ?side1 ?side2 ?side3 ?side4 A5.out).mono ?_); (case side1 => exact Kd.C_below HR295_2.out (by repeat (first | (with_reducible first | exact HB.out | apply below_alloc | apply pw_below_drewN | apply below_drew1 | refine below_set ?_ GE296.out) | exact HB.out))); (case side2 => exact HC295_2.out); (case side3 => exact Kd.C_below HR295_3.out (by repeat (first | (with_reducible first | exact HB.out | apply below_alloc | apply pw_below_drewN | apply below_drew1 | refine below_set ?_ GE296.out) | exact HB.out))); (case side4 => exact HC295_3.out); rintro e w67 ⟨rfl, hb⟩; refine ⟨_, rfl, ?_⟩; have n0_ := Aside0.mk (blk_below (g := gb296) (o := .cells #[.int .i64 ((rd_T70 l0 x11_1).f0), .int .i64 ((rd_T70 l0 x11_1).f1), .slice A295_2 ((rd_T70 l0 x11_1).f2).length c295_2, .slice A295_3 ((rd_T70 l0 x11_1).f3).length c295_3] 70 (0, 0)) (by (with_reducible repeat (first | refine blk_drewN ?_ _ | refine blk_drew ?_ | refine blk_alloc ?_ _)); refine blk_put (cs := #[.int .i64 ((rd_T70 l0 x11_1).f0), .int .i64 ((rd_T70 l0 x11_1).f1), .slice A295_2 ((rd_T70 l0 x11_1).f2).length c295_2, .slice none 0 0]) ?_ 3 _ rfl; (with_reducible repeat (first | refine blk_drewN ?_ _ | refine blk_drew ?_ | refine blk_alloc ?_ _)); refine blk_put (cs := #[.int .i64 ((rd_T70 l0 x11_1).f0), .int .i64 ((rd_T70 l0 x11_1).f1), .slice none 0 0, .slice none 0 0]) ?_ 2 _ rfl; (with_reducible repeat (first | refine blk_drewN ?_ _ | refine blk_drew ?_ | refine blk_alloc ?_ _)); refine blk_put (cs := #[.int .i64 ((rd_T70 l0 x11_1).f0), .int .i64 0, .slice none 0 0, .slice none 0 0]) ?_ 1 _ rfl; (with_reducible repeat (first | refine blk_drewN ?_ _ | refine blk_drew ?_ | refine blk_alloc ?_ _)); refine blk_put (cs := #[.int .i64 0, .int .i64 0, .slice none 0 0, .slice none 0 0]) ?_ 0 _ rfl; (with_reducible repeat (first | refine blk_drewN ?_ _ | refine blk_drew ?_ | refine blk_alloc ?_ _)); exact BK296.out) hb); have n1_ := Aside0.mk (below_step (by repeat (first | (with_reducible first | exact HB.out | apply below_alloc | apply pw_below_drewN | apply below_drew1 | refine below_set ?_ GE296.out) | exact HB.out)) hb); clear BK296; clear HB; have BK296 := n0_; have HB := n1_; clear n0_ n1_; (try clear hb); (try clear hb2); (try clear hk); (try clear hi)))
              go_ret
              exact ⟨by first | rfl | (simp [errW_none, errW_some] <;> rfl) | (simp [*, errW_none, errW_some] <;> rfl), by repeat (first | (with_reducible first | exact HB.out | apply below_alloc | apply pw_below_drewN | apply below_drew1 | refine below_set ?_ GE296.out) | exact HB.out)⟩
          · rw [if_neg c4] at H
            exact absurd H (by simp)
        · rw [if_neg c3] at H
          exact absurd H (by simp)
      · rw [if_neg c2] at H
        have c2b0 : decide (x11_1 < (l0.length : Int)) = false := decide_eq_false c2
        clear c2
        by_cases c68 : x3_1 > 2147483647
        · rw [if_pos c68] at H
          have c68b0 : decide (2147483647 < x3_1) = true := decide_eq_true c68
          clear c68
          obtain rfl := Option.some.inj H
          go_wp2
          go_ret
          exact ⟨by first | rfl | (simp [errW_none, errW_some] <;> rfl) | (simp [*, errW_none, errW_some] <;> rfl), by repeat (first | (with_reducible first | exact HB.out | apply below_alloc | apply pw_below_drewN | apply below_drew1) | exact HB.out)⟩
        · rw [if_neg c68] at H
          have c68b0 : decide (2147483647 < x3_1) = false := decide_eq_false c68
          clear c68
          by_cases c69 : x4_1 > 2147483647
          · rw [if_pos c69] at H
            have c69b0 : decide (2147483647 < x4_1) = true := decide_eq_true c69
            clear c69
            obtain rfl := Option.some.inj H
            go_wp2
            go_ret
            exact ⟨by first | rfl | (simp [errW_none, errW_some] <;> rfl) | (simp [*, errW_none, errW_some] <;> rfl), by repeat (first | (with_reducible first | exact HB.out | apply below_alloc | apply pw_below_drewN | apply below_drew1) | exact HB.out)⟩
          · rw [if_neg c69] at H
            have c69b0 : decide (2147483647 < x4_1) = false := decide_eq_false c69
            clear c69
            obtain rfl := Option.some.inj H
            go_wp2
            go_ret
            exact ⟨by first | rfl | (simp [errW_none, errW_some] <;> rfl) | (simp [*, errW_none, errW_some] <;> rfl), by repeat (first | (with_reducible first | exact HB.out | apply below_alloc | apply pw_below_drewN | apply below_drew1) | exact HB.out)⟩

end Go.Proofs.Ytdgemabmmomebaa.PDelta
end
section
namespace Go.Proofs.Ytdgemabmmomebaa.PDelta
open Go.RowKit Go.Proofs.YtdgemabmmomebaaW.PrintWords Go.Proofs.YtdgemabmmomebaaW.PrintLast Go.Proofs.YtdgemabmmomebaaW.PrintMore
theorem drop_T38 (l : List S38) (i : Nat) (h : i < l.length) : l.drop i = rd_T38 l (i : Int) :: l.drop (i + 1) := by
  rw [List.drop_eq_getElem_cons h]
  simp [rd_T38, List.getD_eq_getElem?_getD, List.getElem?_eq_getElem h]
theorem neq_cond (x y : S38) : ((!(x.f0.toList == y.f0.toList) || (!(x.f1.toList == y.f1.toList))) = true) ↔ x ≠ y := by
  rw [Bool.or_eq_true, Bool.not_eq_true', Bool.not_eq_true', beq_eq_false_iff_ne, beq_eq_false_iff_ne]
  constructor
  · rintro h rfl
    rcases h with h | h <;> exact h rfl
  · intro h
    by_cases h0 : x.f0.toList = y.f0.toList
    · exact .inr (fun h1 => h (s38_ext h0 h1))
    · exact .inl h0
theorem asame_l0 (a b : List S38) (hs : a.length ≤ 1099511627776) (hl : a.length = b.length) (d : Nat) : ∀ i : Nat, i + d = a.length → ∃ r, Ev (fun k => attr_Same.l0 k a b (a.length : Int) (i : Int)) r ∧ (r = true ↔ a.drop i = b.drop i) := by
  induction d with
  | zero =>
    intro i hi
    refine ⟨true, Ev.step (f := fun _ => some true) (fun k => ?_) (Ev.now true), ⟨fun _ => by rw [List.drop_eq_nil_of_le (by omega), List.drop_eq_nil_of_le (by omega)], fun _ => rfl⟩⟩
    simp only [attr_Same.l0]
    rw [if_neg (by omega)]
  | succ d ih =>
    intro i hi
    obtain ⟨r, hr, hri⟩ := ih (i + 1) (by omega)
    have e : ∀ k, attr_Same.l0 (k + 1) a b (a.length : Int) (i : Int) = if (!(((rd_T38 a (i : Int)).f0).toList == ((rd_T38 b (i : Int)).f0).toList) || (!(((rd_T38 a (i : Int)).f1).toList == ((rd_T38 b (i : Int)).f1).toList))) = true then some false else attr_Same.l0 k a b (a.length : Int) ((i + 1 : Nat) : Int) := fun k => by
      simp only [attr_Same.l0]
      rw [if_pos (by omega), if_pos (by omega), if_pos (by omega), if_pos (by omega), wrap_up (by omega) (by omega)]
      rfl
    rw [drop_T38 a i (by omega), drop_T38 b i (by omega)]
    by_cases hx : rd_T38 a (i : Int) = rd_T38 b (i : Int)
    · refine ⟨r, Ev.step (fun k => by rw [e, if_neg (fun h => (neq_cond _ _).1 h hx)]) hr, hri.trans ⟨fun h => by rw [hx, h], fun h => (List.cons.inj h).2⟩⟩
    · exact ⟨false, Ev.step (f := fun _ => some false) (fun k => by rw [e, if_pos ((neq_cond _ _).2 hx)]) (Ev.now false), ⟨(fun h => by cases h), (fun h => absurd (List.cons.inj h).1 hx)⟩⟩
theorem asame_ev (a b : List S38) (hs : a.length ≤ 1099511627776) : ∃ r, Ev (fun k => attr_Same.f k a b) r ∧ (r = true ↔ a = b) := by
  by_cases hl : a.length = b.length
  · obtain ⟨r, hr, hri⟩ := asame_l0 a b hs hl a.length 0 (by omega)
    refine ⟨r, Ev.congr (fun k => ?_) hr, hri⟩
    unfold attr_Same.f
    rw [if_pos (by omega)]
    rfl
  · refine ⟨false, Ev.congr (fun k => ?_) (Ev.now false), ⟨(fun h => by cases h), (fun h => absurd (congrArg List.length h) hl)⟩⟩
    unfold attr_Same.f
    rw [if_neg (by omega)]
theorem rsame_l0 (a b : List S38) (hs : a.length ≤ 1099511627776) (hl : a.length = b.length) (d : Nat) : ∀ i : Nat, i + d = a.length → ∃ r, Ev (fun k => chanceryref1_SameAttrs.l0 k a b (a.length : Int) (i : Int)) r ∧ (r = true ↔ a.drop i = b.drop i) := by
  induction d with
  | zero =>
    intro i hi
    refine ⟨true, Ev.step (f := fun _ => some true) (fun k => ?_) (Ev.now true), ⟨fun _ => by rw [List.drop_eq_nil_of_le (by omega), List.drop_eq_nil_of_le (by omega)], fun _ => rfl⟩⟩
    simp only [chanceryref1_SameAttrs.l0]
    rw [if_neg (by omega)]
  | succ d ih =>
    intro i hi
    obtain ⟨r, hr, hri⟩ := ih (i + 1) (by omega)
    have e : ∀ k, chanceryref1_SameAttrs.l0 (k + 1) a b (a.length : Int) (i : Int) = if (!(((rd_T38 a (i : Int)).f0).toList == ((rd_T38 b (i : Int)).f0).toList) || (!(((rd_T38 a (i : Int)).f1).toList == ((rd_T38 b (i : Int)).f1).toList))) = true then some false else chanceryref1_SameAttrs.l0 k a b (a.length : Int) ((i + 1 : Nat) : Int) := fun k => by
      simp only [chanceryref1_SameAttrs.l0]
      rw [if_pos (by omega), if_pos (by omega), if_pos (by omega), if_pos (by omega), wrap_up (by omega) (by omega)]
      rfl
    rw [drop_T38 a i (by omega), drop_T38 b i (by omega)]
    by_cases hx : rd_T38 a (i : Int) = rd_T38 b (i : Int)
    · refine ⟨r, Ev.step (fun k => by rw [e, if_neg (fun h => (neq_cond _ _).1 h hx)]) hr, hri.trans ⟨fun h => by rw [hx, h], fun h => (List.cons.inj h).2⟩⟩
    · exact ⟨false, Ev.step (f := fun _ => some false) (fun k => by rw [e, if_pos ((neq_cond _ _).2 hx)]) (Ev.now false), ⟨(fun h => by cases h), (fun h => absurd (List.cons.inj h).1 hx)⟩⟩
theorem rsame_ev (a b : List S38) (hs : a.length ≤ 1099511627776) : ∃ r, Ev (fun k => chanceryref1_SameAttrs.f k a b) r ∧ (r = true ↔ a = b) := by
  by_cases hl : a.length = b.length
  · obtain ⟨r, hr, hri⟩ := rsame_l0 a b hs hl a.length 0 (by omega)
    refine ⟨r, Ev.congr (fun k => ?_) hr, hri⟩
    unfold chanceryref1_SameAttrs.f
    rw [if_pos (by omega)]
    rfl
  · refine ⟨false, Ev.congr (fun k => ?_) (Ev.now false), ⟨(fun h => by cases h), (fun h => absurd (congrArg List.length h) hl)⟩⟩
    unfold chanceryref1_SameAttrs.f
    rw [if_neg (by omega)]
def StepOK (s : S70) : Prop :=
  (s.f0 = 0 ∧ 1 ≤ s.f1 ∧ s.f1 ≤ 2147483647 ∧ s.f3 = [] ∧ VA true s.f2) ∨ (s.f0 = 1 ∧ s.f1 = 0 ∧ s.f2 = [] ∧ s.f3 ≠ [] ∧ POK s.f3) ∨ (s.f0 = 2 ∧ 1 ≤ s.f1 ∧ s.f1 ≤ 2147483647 ∧ s.f3 = [] ∧ s.f2 = [])
def SSm (s : S70) : Prop := Small s.f2 ∧ FSmall s.f3
theorem va_nil (ch : Bool) : VA ch [] := ⟨(fun x hx => by cases hx), List.Pairwise.nil⟩
theorem len_pos {α : Type} {l : List α} : (l.length : Int) > 0 ↔ l ≠ [] := by
  cases l with
  | nil => simp
  | cons a l => simp
theorem step_ev (s : S70) (hs : SSm s) : ∃ r : Int, Ev (fun k => delta_step.f k s.f0 s.f1 s.f2 s.f3) r ∧ (r = 0 ↔ StepOK s) := by
  obtain ⟨c, hc, hci⟩ := chkc_ev s.f2 hs.1
  obtain ⟨p, hp, hpi⟩ := part_ev s.f3 hs.2
  have j1 : ∀ b : Bool, ∃ r : Int, Ev (fun k => delta_step.j1 k b s.f0 s.f1 s.f2 s.f3) r ∧ (r = 0 ↔ b = false ∧ 1 ≤ s.f1 ∧ s.f1 ≤ 2147483647 ∧ VA true s.f2) := by
    intro b
    cases b with
    | true => exact ⟨4, Ev.step (f := fun _ => some 4) (fun k => by simp only [delta_step.j1]; rw [if_pos trivial]) (Ev.now 4), by simp⟩
    | false =>
      by_cases h1 : s.f1 < 1
      · exact ⟨2, Ev.step (f := fun _ => some 2) (fun k => by simp only [delta_step.j1]; rw [if_neg (by decide), if_pos h1]) (Ev.now 2), ⟨fun h => by omega, fun h => by omega⟩⟩
      by_cases h2 : s.f1 > 2147483647
      · exact ⟨2, Ev.step (f := fun _ => some 2) (fun k => by simp only [delta_step.j1]; rw [if_neg (by decide), if_neg h1, if_pos h2]) (Ev.now 2), ⟨fun h => by omega, fun h => by omega⟩⟩
      exact ⟨c, Ev.step (fun k => by simp only [delta_step.j1]; rw [if_neg (by decide), if_neg h1, if_neg h2]) (Ev.bind hc (Ev.now c)), hci.trans ⟨fun h => ⟨rfl, by omega, by omega, h⟩, fun h => h.2.2.2⟩⟩
  have j2 : ∀ b : Bool, ∃ r : Int, Ev (fun k => delta_step.j2 k b s.f0 s.f1 s.f2 s.f3) r ∧ (r = 0 ↔ b = false ∧ s.f3 ≠ [] ∧ POK s.f3) := by
    intro b
    cases b with
    | true => exact ⟨4, Ev.step (f := fun _ => some 4) (fun k => by simp only [delta_step.j2]; rw [if_pos trivial]) (Ev.now 4), by simp⟩
    | false =>
      by_cases h1 : s.f3 = []
      · exact ⟨11, Ev.step (f := fun _ => some 11) (fun k => by simp only [delta_step.j2]; rw [if_neg (by decide), if_pos (by rw [h1]; rfl)]) (Ev.now 11), ⟨fun h => by omega, fun h => absurd h1 h.2.1⟩⟩
      · exact ⟨p, Ev.step (fun k => by simp only [delta_step.j2]; rw [if_neg (by decide), if_neg (by have := len_pos.2 h1; omega)]) (Ev.bind hp (Ev.now p)), hpi.trans ⟨fun h => ⟨rfl, h1, h⟩, fun h => h.2.2⟩⟩
  have kc : ∀ (f : Nat → Option Int), (∀ k, f (k + 1) = delta_step.j0 (k + 1) s.f0 true s.f0 s.f1 s.f2 s.f3) → (s.f0 = 0 ∨ s.f0 = 2) → ∃ r : Int, Ev f r ∧ (r = 0 ↔ StepOK s) := by
    intro f hf hk
    by_cases h3 : s.f3 = []
    · by_cases hcut : s.f0 = 2
      · obtain ⟨r, hr, hri⟩ := j1 (decide ((s.f2.length : Int) > 0))
        refine ⟨r, Ev.step (fun k => by rw [hf]; simp only [delta_step.j0]; rw [if_pos trivial, if_neg (by rw [h3]; decide), if_pos hcut]) hr, hri.trans ⟨fun h => ?_, fun h => ?_⟩⟩
        · have h2 : s.f2 = [] := Classical.byContradiction (fun hn => absurd h.1 (by rw [decide_eq_true (len_pos.2 hn)]; decide))
          exact .inr (.inr ⟨hcut, h.2.1, h.2.2.1, h3, h2⟩)
        · rcases h with h | h | h
          · omega
          · omega
          · exact ⟨by rw [h.2.2.2.2]; rfl, h.2.1, h.2.2.1, by rw [h.2.2.2.2]; exact va_nil _⟩
      · obtain ⟨r, hr, hri⟩ := j1 false
        refine ⟨r, Ev.step (fun k => by rw [hf]; simp only [delta_step.j0]; rw [if_pos trivial, if_neg (by rw [h3]; decide), if_neg hcut]) hr, hri.trans ⟨fun h => .inl ⟨by omega, h.2.1, h.2.2.1, h3, h.2.2.2⟩, fun h => ?_⟩⟩
        rcases h with h | h | h
        · exact ⟨rfl, h.2.1, h.2.2.1, h.2.2.2.2⟩
        · omega
        · omega
    · obtain ⟨r, hr, hri⟩ := j1 true
      refine ⟨r, Ev.step (fun k => by rw [hf]; simp only [delta_step.j0]; rw [if_pos trivial, if_pos (len_pos.2 h3)]) hr, hri.trans ⟨(fun h => by cases h.1), fun h => ?_⟩⟩
      rcases h with h | h | h
      · exact absurd h.2.2.2.1 h3
      · omega
      · exact absurd h.2.2.2.1 h3
  by_cases h0 : s.f0 = 0
  · exact kc _ (fun k => by unfold delta_step.f; rw [if_pos h0, h0]; rfl) (.inl h0)
  by_cases h2 : s.f0 = 2
  · exact kc _ (fun k => by unfold delta_step.f; rw [if_neg h0, h2]; rfl) (.inr h2)
  have e : ∀ k, delta_step.f (k + 1) s.f0 s.f1 s.f2 s.f3 = if s.f0 = 1 then (if s.f1 = 0 then delta_step.j2 k (decide ((s.f2.length : Int) > 0)) s.f0 s.f1 s.f2 s.f3 else delta_step.j2 k true s.f0 s.f1 s.f2 s.f3) else some 8 := fun k => by
    unfold delta_step.f
    rw [if_neg h0, show (s.f0 == 2) = false from beq_eq_false_iff_ne.mpr h2]
    simp only [delta_step.j0]
    rw [if_neg (by decide)]
  by_cases h1 : s.f0 = 1
  · by_cases hn : s.f1 = 0
    · obtain ⟨r, hr, hri⟩ := j2 (decide ((s.f2.length : Int) > 0))
      refine ⟨r, Ev.step (fun k => by rw [e, if_pos h1, if_pos hn]) hr, hri.trans ⟨fun h => ?_, fun h => ?_⟩⟩
      · have h2 : s.f2 = [] := Classical.byContradiction (fun hn => absurd h.1 (by rw [decide_eq_true (len_pos.2 hn)]; decide))
        exact .inr (.inl ⟨h1, hn, h2, h.2.1, h.2.2⟩)
      · rcases h with h | h | h
        · omega
        · exact ⟨by rw [h.2.2.1]; rfl, h.2.2.2.1, h.2.2.2.2⟩
        · omega
    · obtain ⟨r, hr, hri⟩ := j2 true
      refine ⟨r, Ev.step (fun k => by rw [e, if_pos h1, if_neg hn]) hr, hri.trans ⟨(fun h => by cases h.1), fun h => ?_⟩⟩
      rcases h with h | h | h <;> omega
  · refine ⟨8, Ev.step (f := fun _ => some 8) (fun k => by rw [e, if_neg h1]) (Ev.now 8), ⟨fun h => by omega, fun h => ?_⟩⟩
    rcases h with h | h | h <;> omega
theorem rstep_ev (s : S70) (hs : SSm s) : ∃ r : Int, Ev (fun k => chanceryref1_StepError.f k s.f0 s.f1 s.f2 s.f3) r ∧ (r = 0 ↔ StepOK s) := by
  obtain ⟨c, hc, hci⟩ := rerr_ev s.f2 true hs.1
  obtain ⟨p, hp, hpi⟩ := rpart_ev s.f3 hs.2
  have j1 : ∀ b : Bool, ∃ r : Int, Ev (fun k => chanceryref1_StepError.j1 k b s.f0 s.f1 s.f2 s.f3) r ∧ (r = 0 ↔ b = false ∧ 1 ≤ s.f1 ∧ s.f1 ≤ 2147483647 ∧ VA true s.f2) := by
    intro b
    cases b with
    | true => exact ⟨4, Ev.step (f := fun _ => some 4) (fun k => by simp only [chanceryref1_StepError.j1]; rw [if_pos trivial]) (Ev.now 4), by simp⟩
    | false =>
      by_cases h1 : 1 ≤ s.f1 ∧ s.f1 ≤ 2147483647
      · exact ⟨c, Ev.step (fun k => by simp only [chanceryref1_StepError.j1]; rw [if_neg (by decide), rin_is, decide_eq_true h1, Option.bind_some, if_pos rfl]) (Ev.bind hc (Ev.now c)), hci.trans ⟨fun h => ⟨rfl, h1.1, h1.2, h⟩, fun h => h.2.2.2⟩⟩
      · exact ⟨2, Ev.step (f := fun _ => some 2) (fun k => by simp only [chanceryref1_StepError.j1]; rw [if_neg (by decide), rin_is, decide_eq_false h1, Option.bind_some, if_neg (by decide)]) (Ev.now 2), ⟨fun h => by omega, fun h => absurd ⟨h.2.1, h.2.2.1⟩ h1⟩⟩
  have j0 : ∀ b : Bool, ∃ r : Int, Ev (fun k => chanceryref1_StepError.j0 k b s.f0 s.f1 s.f2 s.f3) r ∧ (r = 0 ↔ b = false ∧ s.f3 ≠ [] ∧ POK s.f3) := by
    intro b
    cases b with
    | true => exact ⟨4, Ev.step (f := fun _ => some 4) (fun k => by simp only [chanceryref1_StepError.j0]; rw [if_pos trivial]) (Ev.now 4), by simp⟩
    | false =>
      by_cases h1 : s.f3 = []
      · exact ⟨11, Ev.step (f := fun _ => some 11) (fun k => by simp only [chanceryref1_StepError.j0]; rw [if_neg (by decide), if_pos (by rw [h1]; rfl)]) (Ev.now 11), ⟨fun h => by omega, fun h => absurd h1 h.2.1⟩⟩
      · exact ⟨p, Ev.step (fun k => by simp only [chanceryref1_StepError.j0]; rw [if_neg (by decide), if_neg (by have := len_pos.2 h1; omega)]) (Ev.bind hp (Ev.now p)), hpi.trans ⟨fun h => ⟨rfl, h1, h⟩, fun h => h.2.2⟩⟩
  by_cases hr : 0 ≤ s.f0 ∧ s.f0 ≤ 2
  rotate_left
  · refine ⟨8, Ev.congr (fun k => ?_) (Ev.now 8), ⟨fun h => by omega, fun h => ?_⟩⟩
    · unfold chanceryref1_StepError.f
      rw [rin_is, decide_eq_false hr, Option.bind_some, if_neg (by decide)]
    · rcases h with h | h | h <;> omega
  have e : ∀ k, chanceryref1_StepError.f k s.f0 s.f1 s.f2 s.f3 = if s.f0 = 1 then (if s.f1 = 0 then chanceryref1_StepError.j0 k (decide ((s.f2.length : Int) > 0)) s.f0 s.f1 s.f2 s.f3 else chanceryref1_StepError.j0 k true s.f0 s.f1 s.f2 s.f3) else (if (s.f3.length : Int) > 0 then chanceryref1_StepError.j1 k true s.f0 s.f1 s.f2 s.f3 else if s.f0 = 2 then chanceryref1_StepError.j1 k (decide ((s.f2.length : Int) > 0)) s.f0 s.f1 s.f2 s.f3 else chanceryref1_StepError.j1 k false s.f0 s.f1 s.f2 s.f3) := fun k => by
    unfold chanceryref1_StepError.f
    rw [rin_is, decide_eq_true hr, Option.bind_some, if_pos rfl]
  by_cases h1 : s.f0 = 1
  · by_cases hn : s.f1 = 0
    · obtain ⟨r, hr, hri⟩ := j0 (decide ((s.f2.length : Int) > 0))
      refine ⟨r, Ev.congr (fun k => by rw [e, if_pos h1, if_pos hn]) hr, hri.trans ⟨fun h => ?_, fun h => ?_⟩⟩
      · have h2 : s.f2 = [] := Classical.byContradiction (fun hn => absurd h.1 (by rw [decide_eq_true (len_pos.2 hn)]; decide))
        exact .inr (.inl ⟨h1, hn, h2, h.2.1, h.2.2⟩)
      · rcases h with h | h | h
        · omega
        · exact ⟨by rw [h.2.2.1]; rfl, h.2.2.2.1, h.2.2.2.2⟩
        · omega
    · obtain ⟨r, hr, hri⟩ := j0 true
      refine ⟨r, Ev.congr (fun k => by rw [e, if_pos h1, if_neg hn]) hr, hri.trans ⟨(fun h => by cases h.1), fun h => ?_⟩⟩
      rcases h with h | h | h <;> omega
  by_cases h3 : s.f3 = []
  rotate_left
  · obtain ⟨r, hr, hri⟩ := j1 true
    refine ⟨r, Ev.congr (fun k => by rw [e, if_neg h1, if_pos (len_pos.2 h3)]) hr, hri.trans ⟨(fun h => by cases h.1), fun h => ?_⟩⟩
    rcases h with h | h | h
    · exact absurd h.2.2.2.1 h3
    · omega
    · exact absurd h.2.2.2.1 h3
  by_cases h2 : s.f0 = 2
  · obtain ⟨r, hr, hri⟩ := j1 (decide ((s.f2.length : Int) > 0))
    refine ⟨r, Ev.congr (fun k => by rw [e, if_neg h1, if_neg (by rw [h3]; decide), if_pos h2]) hr, hri.trans ⟨fun h => ?_, fun h => ?_⟩⟩
    · have h4 : s.f2 = [] := Classical.byContradiction (fun hn => absurd h.1 (by rw [decide_eq_true (len_pos.2 hn)]; decide))
      exact .inr (.inr ⟨h2, h.2.1, h.2.2.1, h3, h4⟩)
    · rcases h with h | h | h
      · omega
      · omega
      · exact ⟨by rw [h.2.2.2.2]; rfl, h.2.1, h.2.2.1, by rw [h.2.2.2.2]; exact va_nil _⟩
  · obtain ⟨r, hr, hri⟩ := j1 false
    refine ⟨r, Ev.congr (fun k => by rw [e, if_neg h1, if_neg (by rw [h3]; decide), if_neg h2]) hr, hri.trans ⟨fun h => .inl ⟨by omega, h.2.1, h.2.2.1, h3, h.2.2.2⟩, fun h => ?_⟩⟩
    rcases h with h | h | h
    · exact ⟨rfl, h.2.1, h.2.2.1, h.2.2.2.2⟩
    · omega
    · omega
def Adj (p s : S70) : Prop := ¬ (p.f0 = s.f0 ∧ (s.f0 ≠ 0 ∨ p.f2 = s.f2)) ∧ ¬ (p.f0 = 2 ∧ s.f0 = 1)
def ordOK : Option S70 → List S70 → Prop
  | _, [] => True
  | p, s :: r => (∀ q, p = some q → Adj q s) ∧ ordOK (some s) r
def oldS (s : S70) : Int := if s.f0 = 1 then 0 else s.f1
def newS (s : S70) : Int := if s.f0 = 2 then 0 else if s.f0 = 1 then (s.f3.length : Int) else s.f1
def old : List S70 → Int
  | [] => 0
  | s :: r => oldS s + old r
def new : List S70 → Int
  | [] => 0
  | s :: r => newS s + new r
structure DOK (d : List S70) : Prop where
  ok : ∀ s ∈ d, StepOK s
  ord : ordOK none d
  old : old d ≤ 2147483647
  new : new d ≤ 2147483647
def DSm (d : List S70) : Prop := d.length ≤ 1073741824 ∧ ∀ s ∈ d, SSm s
theorem rd70_mem {l : List S70} {i : Nat} (h : i < l.length) : rd_T70 l (i : Int) ∈ l := by
  simp only [rd_T70, Int.toNat_natCast, List.getD_eq_getElem?_getD, List.getElem?_eq_getElem h, Option.getD_some]
  exact List.getElem_mem h
theorem oldS_nn {s : S70} (h : StepOK s) : 0 ≤ oldS s ∧ oldS s ≤ 2147483647 := by
  unfold oldS
  rcases h with h | h | h <;> split <;> omega
theorem newS_nn {s : S70} (h : StepOK s) (hs : SSm s) : 0 ≤ newS s ∧ newS s ≤ 2147483647 := by
  have := hs.2.1
  unfold newS
  rcases h with h | h | h
  · rw [if_neg (by omega), if_neg (by omega)]; omega
  · rw [if_neg (by omega), if_pos h.1]; omega
  · rw [if_pos h.1]; omega
theorem old_nn : ∀ {d : List S70}, (∀ s ∈ d, StepOK s) → 0 ≤ old d
  | [], _ => Int.le_refl _
  | s :: r, h => by
    have h1 := oldS_nn (h s List.mem_cons_self)
    have h2 := old_nn (d := r) (fun x hx => h x (List.mem_cons_of_mem _ hx))
    rw [old]
    omega
theorem new_nn : ∀ {d : List S70}, (∀ s ∈ d, StepOK s) → (∀ s ∈ d, SSm s) → 0 ≤ new d
  | [], _, _ => Int.le_refl _
  | s :: r, h, hs => by
    have h1 := newS_nn (h s List.mem_cons_self) (hs s List.mem_cons_self)
    have h2 := new_nn (d := r) (fun x hx => h x (List.mem_cons_of_mem _ hx)) (fun x hx => hs x (List.mem_cons_of_mem _ hx))
    rw [new]
    omega
theorem mn_cap {a : Int} : mn a 2147483648 = if a ≤ 2147483648 then a else 2147483648 := by unfold mn; split <;> split <;> omega
def prev (d : List S70) : Nat → Option S70
  | 0 => none
  | i + 1 => some (rd_T70 d (i : Int))
theorem adj_prev {d : List S70} {i : Nat} (h0 : 0 < i) (P : Prop) : (∀ q, prev d i = some q → Adj q (rd_T70 d (i : Int))) ↔ Adj (rd_T70 d ((i : Int) - 1)) (rd_T70 d (i : Int)) := by
  obtain ⟨j, rfl⟩ : ∃ j, i = j + 1 := ⟨i - 1, by omega⟩
  rw [show ((j + 1 : Nat) : Int) - 1 = (j : Int) by omega]
  exact ⟨fun h => h _ rfl, fun h q hq => by cases hq; exact h⟩
def RestOK (p : Option S70) (r : List S70) (b a : Int) : Prop := (∀ s ∈ r, StepOK s) ∧ ordOK p r ∧ b + old r ≤ 2147483647 ∧ a + new r ≤ 2147483647
theorem rest_cons {p : Option S70} {s : S70} {r : List S70} {b a : Int} : RestOK p (s :: r) b a ↔ StepOK s ∧ (∀ q, p = some q → Adj q s) ∧ RestOK (some s) r (b + oldS s) (a + newS s) := by
  unfold RestOK
  rw [ordOK, old, new]
  constructor
  · rintro ⟨h1, ⟨h2, h3⟩, h4, h5⟩
    exact ⟨h1 s List.mem_cons_self, h2, fun x hx => h1 x (List.mem_cons_of_mem _ hx), h3, by omega, by omega⟩
  · rintro ⟨h1, h2, h3, h4, h5, h6⟩
    exact ⟨fun x hx => by rcases List.mem_cons.1 hx with rfl | hx; exact h1; exact h3 x hx, ⟨h2, h4⟩, by omega, by omega⟩
theorem rest_cap {p : Option S70} {r : List S70} {b a b' a' : Int} (hs : ∀ s ∈ r, SSm s) (hb : b = b' ∨ (2147483647 < b ∧ 2147483647 < b')) (ha : a = a' ∨ (2147483647 < a ∧ 2147483647 < a')) : RestOK p r b a ↔ RestOK p r b' a' := by
  unfold RestOK
  constructor
  · rintro ⟨h1, h2, h3, h4⟩
    have := old_nn h1
    have := new_nn h1 hs
    exact ⟨h1, h2, by omega, by omega⟩
  · rintro ⟨h1, h2, h3, h4⟩
    have := old_nn h1
    have := new_nn h1 hs
    exact ⟨h1, h2, by omega, by omega⟩
theorem size_is (s : S70) : delta_size.f s.f0 s.f1 s.f2 s.f3 = some (if s.f0 = 1 then (s.f3.length : Int) else s.f1) := by
  unfold delta_size.f
  split <;> rfl
theorem w64 {i : Int} (h0 : -4611686018427387904 ≤ i) (h : i ≤ 4611686018427387904) : wrap64 i = i := by unfold wrap64; omega
theorem check_l0 (d : List S70) (hs : DSm d) (n : Nat) : ∀ (i : Nat) (b a : Int), i + n = d.length → 0 ≤ b → b ≤ 2147483648 → 0 ≤ a → a ≤ 2147483648 →
    ∃ r : Int, Ev (fun k => delta_Check.l0 k d b a d (d.length : Int) (i : Int)) r ∧ (r = 0 ↔ RestOK (prev d i) (d.drop i) b a) := by
  have hs1 := hs.1
  induction n with
  | zero =>
    intro i b a hi hb0 hb ha0 ha
    have e : ∀ k, delta_Check.l0 (k + 1) d b a d (d.length : Int) (i : Int) = if b > 2147483647 then some 3 else if a > 2147483647 then some 3 else some 0 := fun k => by
      simp only [delta_Check.l0]
      rw [if_neg (by omega)]
    rw [List.drop_eq_nil_of_le (by omega)]
    have hR : RestOK (prev d i) [] b a ↔ b ≤ 2147483647 ∧ a ≤ 2147483647 := ⟨fun h => by have := h.2.2; simp [old, new] at this; exact this, fun h => ⟨(fun s hs => by cases hs), trivial, by simp [old]; exact h.1, by simp [new]; exact h.2⟩⟩
    rw [hR]
    by_cases h1 : b > 2147483647
    · exact ⟨3, Ev.step (f := fun _ => some 3) (fun k => by rw [e, if_pos h1]) (Ev.now 3), ⟨fun h => by omega, fun h => by omega⟩⟩
    by_cases h2 : a > 2147483647
    · exact ⟨3, Ev.step (f := fun _ => some 3) (fun k => by rw [e, if_neg h1, if_pos h2]) (Ev.now 3), ⟨fun h => by omega, fun h => by omega⟩⟩
    exact ⟨0, Ev.step (f := fun _ => some 0) (fun k => by rw [e, if_neg h1, if_neg h2]) (Ev.now 0), ⟨fun h => by omega, fun h => rfl⟩⟩
  | succ n ih =>
    intro i b a hi hb0 hb ha0 ha
    have hlt : i < d.length := by omega
    have hsm := hs.2 _ (rd70_mem hlt)
    rw [drop_T70 d i hlt]
    obtain ⟨r0, hr0, hri0⟩ := step_ev _ hsm
    obtain ⟨s, hsd⟩ : ∃ s, s = rd_T70 d (i : Int) := ⟨_, rfl⟩
    rw [← hsd] at hsm hr0 hri0
    rw [rest_cons, ← hsd]
    have hrs : ∀ x ∈ d.drop (i + 1), SSm x := fun x hx => hs.2 x (List.mem_of_mem_drop hx)
    have j1 : StepOK s → ∃ r : Int, Ev (fun k => delta_Check.j1 k d b a d (d.length : Int) (i : Int) s.f0 s.f1 s.f2 s.f3) r ∧ (r = 0 ↔ RestOK (some s) (d.drop (i + 1)) (b + oldS s) (a + newS s)) := by
      intro hok
      have ho := oldS_nn hok
      have hn := newS_nn hok hsm
      have pe : prev d (i + 1) = some s := by rw [prev, hsd]
      by_cases h1 : s.f0 = 1
      · have h2 : ¬ s.f0 = 2 := by omega
        have e1 : oldS s = 0 := if_pos h1
        have e2 : newS s = (s.f3.length : Int) := by unfold newS; rw [if_neg h2, if_pos h1]
        obtain ⟨r, hr, hri⟩ := ih (i + 1) b (mn (a + (s.f3.length : Int)) 2147483648) (by omega) hb0 hb (by rw [mn_cap]; split <;> omega) (by rw [mn_cap]; split <;> omega)
        refine ⟨r, Ev.step (fun k => by
          simp only [delta_Check.j1]
          rw [if_pos h1, if_neg h2, size_is, Option.bind_some, if_pos h1, wrap_up (by omega) (by omega), w64 (by omega) (by omega)]
          rfl) hr, hri.trans ?_⟩
        rw [pe, e1, e2]
        exact rest_cap hrs (by omega) (by rw [mn_cap]; split <;> omega)
      by_cases h2 : s.f0 = 2
      · have e1 : oldS s = s.f1 := if_neg h1
        have e2 : newS s = 0 := if_pos h2
        obtain ⟨r, hr, hri⟩ := ih (i + 1) (mn (b + s.f1) 2147483648) a (by omega) (by rw [mn_cap]; split <;> omega) (by rw [mn_cap]; split <;> omega) ha0 ha
        refine ⟨r, Ev.step (fun k => by
          simp only [delta_Check.j1]
          rw [if_neg h1, if_pos h2, wrap_up (by omega) (by omega), w64 (by omega) (by omega)]
          rfl) hr, hri.trans ?_⟩
        rw [pe, e1, e2]
        exact rest_cap hrs (by rw [mn_cap]; split <;> omega) (by omega)
      · have e1 : oldS s = s.f1 := if_neg h1
        have e2 : newS s = s.f1 := by unfold newS; rw [if_neg h2, if_neg h1]
        obtain ⟨r, hr, hri⟩ := ih (i + 1) (mn (b + s.f1) 2147483648) (mn (a + s.f1) 2147483648) (by omega) (by rw [mn_cap]; split <;> omega) (by rw [mn_cap]; split <;> omega) (by rw [mn_cap]; split <;> omega) (by rw [mn_cap]; split <;> omega)
        refine ⟨r, Ev.step (fun k => by
          simp only [delta_Check.j1]
          rw [if_neg h1, if_neg h2, size_is, Option.bind_some, if_neg h1, wrap_up (by omega) (by omega), w64 (i := b + s.f1) (by omega) (by omega), w64 (by omega) (by omega)]
          rfl) hr, hri.trans ?_⟩
        rw [pe, e1, e2]
        exact rest_cap hrs (by rw [mn_cap]; split <;> omega) (by rw [mn_cap]; split <;> omega)
    have e0 : ∀ k, delta_Check.l0 (k + 1) d b a d (d.length : Int) (i : Int) = (delta_step.f k s.f0 s.f1 s.f2 s.f3).bind fun t => if t = 0 then (if (i : Int) > 0 then
        (if (rd_T70 d ((i : Int) - 1)).f0 = s.f0 then (if s.f0 = 0 then (attr_Same.f k (rd_T70 d ((i : Int) - 1)).f2 s.f2).bind fun t => (if t = true then some 5 else if (rd_T70 d ((i : Int) - 1)).f0 = 2 then (if s.f0 = 1 then some 5 else delta_Check.j1 k d b a d (d.length : Int) (i : Int) s.f0 s.f1 s.f2 s.f3) else delta_Check.j1 k d b a d (d.length : Int) (i : Int) s.f0 s.f1 s.f2 s.f3) else some 5)
         else (if (rd_T70 d ((i : Int) - 1)).f0 = 2 then (if s.f0 = 1 then some 5 else delta_Check.j1 k d b a d (d.length : Int) (i : Int) s.f0 s.f1 s.f2 s.f3) else delta_Check.j1 k d b a d (d.length : Int) (i : Int) s.f0 s.f1 s.f2 s.f3))
        else delta_Check.j1 k d b a d (d.length : Int) (i : Int) s.f0 s.f1 s.f2 s.f3) else some t := fun k => by
      simp only [delta_Check.l0]
      rw [if_pos (by omega), if_pos (by omega), if_pos (by omega), ← hsd]
      by_cases h0 : (i : Int) > 0
      · rw [wrap_dn (by omega) (by omega), if_pos (show (0 : Int) ≤ (i : Int) - 1 by omega), if_pos (show (i : Int) - 1 < (d.length : Int) by omega)]
      · simp only [if_neg h0]
    have bad : ∀ (c : Int), c ≠ 0 → Ev (fun k => delta_Check.l0 k d b a d (d.length : Int) (i : Int)) c → ¬ (StepOK s ∧ (∀ q, prev d i = some q → Adj q s) ∧ RestOK (some s) (d.drop (i + 1)) (b + oldS s) (a + newS s)) →
        ∃ r : Int, Ev (fun k => delta_Check.l0 k d b a d (d.length : Int) (i : Int)) r ∧ (r = 0 ↔ (StepOK s ∧ (∀ q, prev d i = some q → Adj q s) ∧ RestOK (some s) (d.drop (i + 1)) (b + oldS s) (a + newS s))) := fun c hc he hn => ⟨c, he, ⟨fun h => absurd h hc, fun h => absurd h hn⟩⟩
    by_cases hz : r0 = 0
    rotate_left
    · exact bad r0 hz (Ev.step e0 (Ev.bind hr0 (Ev.congr (fun k => by rw [if_neg hz]) (Ev.now r0)))) (fun h => hz (hri0.2 h.1))
    have hok := hri0.1 hz
    subst hz
    obtain ⟨r, hr, hri⟩ := j1 hok
    by_cases hi0 : i = 0
    · subst hi0
      exact ⟨r, Ev.step e0 (Ev.bind hr0 (Ev.congr (fun k => by rw [if_pos rfl, if_neg (by omega)]) hr)), hri.trans ⟨fun h => ⟨hok, (fun q hq => by cases hq), h⟩, fun h => h.2.2⟩⟩
    have hap := adj_prev (d := d) (i := i) (by omega) True
    rw [← hsd] at hap
    rw [hap] at bad ⊢
    obtain ⟨p, hp⟩ : ∃ p, p = rd_T70 d ((i : Int) - 1) := ⟨_, rfl⟩
    rw [← hp] at hap bad e0 ⊢
    have hpsm : SSm p := by
      have := hs.2 _ (rd70_mem (l := d) (i := i - 1) (by omega))
      rw [show ((i - 1 : Nat) : Int) = (i : Int) - 1 by omega, ← hp] at this
      exact this
    have good : Adj p s → (∀ k, delta_Check.l0 (k + 1) d b a d (d.length : Int) (i : Int) = (delta_step.f k s.f0 s.f1 s.f2 s.f3).bind fun t => if t = 0 then delta_Check.j1 k d b a d (d.length : Int) (i : Int) s.f0 s.f1 s.f2 s.f3 else some t) → ∃ r : Int, Ev (fun k => delta_Check.l0 k d b a d (d.length : Int) (i : Int)) r ∧ (r = 0 ↔ (StepOK s ∧ Adj p s ∧ RestOK (some s) (d.drop (i + 1)) (b + oldS s) (a + newS s))) :=
      fun h1 h2 => ⟨r, Ev.step h2 (Ev.bind hr0 (Ev.congr (fun k => by rw [if_pos rfl]) hr)), hri.trans ⟨fun h => ⟨hok, h1, h⟩, fun h => h.2.2⟩⟩
    have hpos : (i : Int) > 0 := by omega
    by_cases hk : p.f0 = s.f0
    · by_cases h0 : s.f0 = 0
      · obtain ⟨c, hc, hci⟩ := asame_ev p.f2 s.f2 hpsm.1.1
        cases c with
        | true =>
          refine bad 5 (by decide) (Ev.step e0 (Ev.bind hr0 (Ev.congr (fun k => by rw [if_pos rfl, if_pos hpos, if_pos hk, if_pos h0]) (Ev.bind hc (Ev.congr (fun k => by rw [if_pos rfl]) (Ev.now 5)))))) (fun h => h.2.1.1 ⟨hk, .inr (hci.1 rfl)⟩)
        | false =>
          have hne : p.f2 ≠ s.f2 := fun h => by have := hci.2 h; cases this
          refine ⟨r, Ev.step e0 (Ev.bind hr0 (Ev.congr (fun k => by rw [if_pos rfl, if_pos hpos, if_pos hk, if_pos h0]) (Ev.bind hc (Ev.congr (fun k => by rw [if_neg (by decide), if_neg (by omega)]) hr)))), hri.trans ⟨fun h => ⟨hok, ⟨fun h => ?_, fun h => by omega⟩, h⟩, fun h => h.2.2⟩⟩
          rcases h.2 with h | h
          · exact h h0
          · exact hne h
      · refine bad 5 (by decide) (Ev.step e0 (Ev.bind hr0 (Ev.congr (fun k => by rw [if_pos rfl, if_pos hpos, if_pos hk, if_neg h0]) (Ev.now 5)))) (fun h => h.2.1.1 ⟨hk, .inl h0⟩)
    · by_cases hc2 : p.f0 = 2 ∧ s.f0 = 1
      · refine bad 5 (by decide) (Ev.step e0 (Ev.bind hr0 (Ev.congr (fun k => by rw [if_pos rfl, if_pos hpos, if_neg hk, if_pos hc2.1, if_pos hc2.2]) (Ev.now 5)))) (fun h => h.2.1.2 hc2)
      · refine good ⟨fun h => hk h.1, hc2⟩ (fun k => ?_)
        rw [e0]
        congr 1
        funext t
        by_cases ht : t = 0
        · rw [if_pos ht, if_pos ht, if_pos hpos, if_neg hk]
          by_cases h2 : p.f0 = 2
          · rw [if_pos h2, if_neg (fun h => hc2 ⟨h2, h⟩)]
          · rw [if_neg h2]
        · rw [if_neg ht, if_neg ht]
theorem dok_rest (d : List S70) : RestOK none d 0 0 ↔ DOK d := ⟨fun h => ⟨h.1, h.2.1, by have := h.2.2.1; omega, by have := h.2.2.2; omega⟩, fun h => ⟨h.ok, h.ord, by have := h.old; omega, by have := h.new; omega⟩⟩
theorem check_ev (d : List S70) (hs : DSm d) : ∃ r : Int, Ev (fun k => delta_Check.f k d) r ∧ (r = 0 ↔ DOK d) := by
  obtain ⟨r, hr, hri⟩ := check_l0 d hs d.length 0 0 0 (by omega) (by omega) (by omega) (by omega) (by omega)
  exact ⟨r, hr, hri.trans (dok_rest d)⟩
theorem stepok_kind {s : S70} (h : StepOK s) : s.f0 = 0 ∨ s.f0 = 1 ∨ s.f0 = 2 := by rcases h with h | h | h <;> omega
theorem rcheck_l0 (d : List S70) (hs : DSm d) (n : Nat) : ∀ (i : Nat) (b a : Int), i + n = d.length → 0 ≤ b → b ≤ 4294967296 → 0 ≤ a → a ≤ 4294967296 → (∀ q, prev d i = some q → q.f0 = 0 ∨ q.f0 = 1 ∨ q.f0 = 2) →
    ∃ r : Int, Ev (fun k => chanceryref1_DeltaError.l0 k d b a (d.length : Int) (i : Int)) r ∧ (r = 0 ↔ RestOK (prev d i) (d.drop i) b a) := by
  have hs1 := hs.1
  induction n with
  | zero =>
    intro i b a hi hb0 hb ha0 ha hpv
    have e : ∀ k, chanceryref1_DeltaError.l0 (k + 1) d b a (d.length : Int) (i : Int) = if b > 2147483647 then some 3 else if a > 2147483647 then some 3 else some 0 := fun k => by
      simp only [chanceryref1_DeltaError.l0]
      rw [if_neg (by omega)]
    rw [List.drop_eq_nil_of_le (by omega)]
    have hR : RestOK (prev d i) [] b a ↔ b ≤ 2147483647 ∧ a ≤ 2147483647 := ⟨fun h => by have := h.2.2; simp [old, new] at this; exact this, fun h => ⟨(fun s hs => by cases hs), trivial, by simp [old]; exact h.1, by simp [new]; exact h.2⟩⟩
    rw [hR]
    by_cases h1 : b > 2147483647
    · exact ⟨3, Ev.step (f := fun _ => some 3) (fun k => by rw [e, if_pos h1]) (Ev.now 3), ⟨fun h => by omega, fun h => by omega⟩⟩
    by_cases h2 : a > 2147483647
    · exact ⟨3, Ev.step (f := fun _ => some 3) (fun k => by rw [e, if_neg h1, if_pos h2]) (Ev.now 3), ⟨fun h => by omega, fun h => by omega⟩⟩
    exact ⟨0, Ev.step (f := fun _ => some 0) (fun k => by rw [e, if_neg h1, if_neg h2]) (Ev.now 0), ⟨fun h => by omega, fun h => rfl⟩⟩
  | succ n ih =>
    intro i b a hi hb0 hb ha0 ha hpv
    have hlt : i < d.length := by omega
    have hsm := hs.2 _ (rd70_mem hlt)
    rw [drop_T70 d i hlt]
    obtain ⟨r0, hr0, hri0⟩ := rstep_ev _ hsm
    obtain ⟨s, hsd⟩ : ∃ s, s = rd_T70 d (i : Int) := ⟨_, rfl⟩
    rw [← hsd] at hsm hr0 hri0
    rw [rest_cons, ← hsd]
    have hrs : ∀ x ∈ d.drop (i + 1), SSm x := fun x hx => hs.2 x (List.mem_of_mem_drop hx)
    have j1 : StepOK s → ∃ r : Int, Ev (fun k => chanceryref1_DeltaError.j1 k d b a (d.length : Int) (i : Int) s.f0 s.f1 s.f2 s.f3) r ∧ (r = 0 ↔ RestOK (some s) (d.drop (i + 1)) (b + oldS s) (a + newS s)) := by
      intro hok
      have ho := oldS_nn hok
      have hn := newS_nn hok hsm
      have pe : prev d (i + 1) = some s := by rw [prev, hsd]
      have hl3 := hsm.2.1
      obtain ⟨b', hb'⟩ : ∃ b', b' = if s.f0 ≠ 1 ∧ b < 2147483648 then b + s.f1 else b := ⟨_, rfl⟩
      obtain ⟨a', ha'⟩ : ∃ a', a' = if s.f0 ≠ 2 ∧ a < 2147483648 then a + (s.f1 + (s.f3.length : Int)) else a := ⟨_, rfl⟩
      have hl : s.f0 = 1 → s.f1 = 0 := fun h => by rcases hok with h' | h' | h' <;> omega
      have hl2 : s.f0 ≠ 1 → s.f3 = [] ∧ 1 ≤ s.f1 ∧ s.f1 ≤ 2147483647 := fun h => by
        rcases hok with h' | h' | h'
        · exact ⟨h'.2.2.2.1, h'.2.1, h'.2.2.1⟩
        · omega
        · exact ⟨h'.2.2.2.1, h'.2.1, h'.2.2.1⟩
      have hlen : s.f0 ≠ 1 → (s.f3.length : Int) = 0 := fun h => by rw [(hl2 h).1]; rfl
      have hf1 : 0 ≤ s.f1 ∧ s.f1 ≤ 2147483647 := by
        by_cases h : s.f0 = 1
        · rw [hl h]; omega
        · have := hl2 h; omega
      have bb : 0 ≤ b' ∧ b' ≤ 4294967296 := by rw [hb']; split <;> omega
      have aa : 0 ≤ a' ∧ a' ≤ 4294967296 := by rw [ha']; split <;> omega
      obtain ⟨r, hr, hri⟩ := ih (i + 1) b' a' (by omega) bb.1 bb.2 aa.1 aa.2 (fun q hq => by rw [pe] at hq; cases hq; exact stepok_kind hok)
      refine ⟨r, ?_, hri.trans ?_⟩
      · have last : ∀ k, chanceryref1_DeltaError.j2 (k + 1) d b a (d.length : Int) (i : Int) (decide (s.f0 ≠ 1 ∧ b < 2147483648)) s.f0 s.f1 s.f2 s.f3 = chanceryref1_DeltaError.l0 k d b' a' (d.length : Int) ((i + 1 : Nat) : Int) := fun k => by
          simp only [chanceryref1_DeltaError.j2]
          rw [wrap_up (by omega) (by omega), w64 (i := b + s.f1) (by omega) (by omega), w64 (i := s.f1 + (s.f3.length : Int)) (by omega) (by omega), w64 (i := a + (s.f1 + (s.f3.length : Int))) (by omega) (by omega), hb', ha']
          by_cases g0 : s.f0 = 1 <;> by_cases g1 : b < 2147483648 <;> by_cases g2 : s.f0 = 2 <;> by_cases g3 : a < 2147483648 <;> simp [g0, g1, g2, g3]
        refine Ev.step (fun k => ?_) (Ev.step (g := fun k => chanceryref1_DeltaError.j2 k d b a (d.length : Int) (i : Int) (decide (s.f0 ≠ 1 ∧ b < 2147483648)) s.f0 s.f1 s.f2 s.f3) last hr)
        simp only [chanceryref1_DeltaError.j1]
        by_cases h1 : s.f0 = 1
        · rw [if_pos h1, decide_eq_false (fun h => h.1 h1)]
        · rw [if_neg h1]
          congr 1
          exact decide_eq_decide.mpr ⟨fun h => ⟨h1, h⟩, fun h => h.2⟩
      · rw [pe]
        have e1 : oldS s = if s.f0 = 1 then 0 else s.f1 := rfl
        have e2 : newS s = if s.f0 = 2 then 0 else s.f1 + (s.f3.length : Int) := by
          unfold newS
          split
          · rfl
          · split
            · rw [hl (by assumption)]; omega
            · rw [hlen (by assumption)]; omega
        refine rest_cap hrs ?_ ?_
        · rw [hb', e1]; split <;> split <;> omega
        · rw [ha', e2]; split <;> split <;> omega
    have e0 : ∀ k, chanceryref1_DeltaError.l0 (k + 1) d b a (d.length : Int) (i : Int) = (chanceryref1_StepError.f k s.f0 s.f1 s.f2 s.f3).bind fun t => if t = 0 then (if (i : Int) > 0 then
        (if s.f0 = 1 then (if (rd_T70 d ((i : Int) - 1)).f0 = 0 then chanceryref1_DeltaError.j1 k d b a (d.length : Int) (i : Int) s.f0 s.f1 s.f2 s.f3 else some 5)
         else (if s.f0 = 2 then (if (rd_T70 d ((i : Int) - 1)).f0 = 2 then some 5 else chanceryref1_DeltaError.j1 k d b a (d.length : Int) (i : Int) s.f0 s.f1 s.f2 s.f3)
          else (if (rd_T70 d ((i : Int) - 1)).f0 = 0 then (chanceryref1_SameAttrs.f k (rd_T70 d ((i : Int) - 1)).f2 s.f2).bind fun t => (if t = true then some 5 else chanceryref1_DeltaError.j1 k d b a (d.length : Int) (i : Int) s.f0 s.f1 s.f2 s.f3) else chanceryref1_DeltaError.j1 k d b a (d.length : Int) (i : Int) s.f0 s.f1 s.f2 s.f3)))
        else chanceryref1_DeltaError.j1 k d b a (d.length : Int) (i : Int) s.f0 s.f1 s.f2 s.f3) else some t := fun k => by
      simp only [chanceryref1_DeltaError.l0]
      rw [if_pos (by omega), if_pos (by omega), if_pos (by omega), ← hsd]
      by_cases h0 : (i : Int) > 0
      · rw [wrap_dn (by omega) (by omega), if_pos (show (0 : Int) ≤ (i : Int) - 1 by omega), if_pos (show (i : Int) - 1 < (d.length : Int) by omega)]
      · simp only [if_neg h0]
    have bad : ∀ (c : Int), c ≠ 0 → Ev (fun k => chanceryref1_DeltaError.l0 k d b a (d.length : Int) (i : Int)) c → ¬ (StepOK s ∧ (∀ q, prev d i = some q → Adj q s) ∧ RestOK (some s) (d.drop (i + 1)) (b + oldS s) (a + newS s)) →
        ∃ r : Int, Ev (fun k => chanceryref1_DeltaError.l0 k d b a (d.length : Int) (i : Int)) r ∧ (r = 0 ↔ (StepOK s ∧ (∀ q, prev d i = some q → Adj q s) ∧ RestOK (some s) (d.drop (i + 1)) (b + oldS s) (a + newS s))) := fun c hc he hn => ⟨c, he, ⟨fun h => absurd h hc, fun h => absurd h hn⟩⟩
    by_cases hz : r0 = 0
    rotate_left
    · exact bad r0 hz (Ev.step e0 (Ev.bind hr0 (Ev.congr (fun k => by rw [if_neg hz]) (Ev.now r0)))) (fun h => hz (hri0.2 h.1))
    have hok := hri0.1 hz
    subst hz
    obtain ⟨r, hr, hri⟩ := j1 hok
    by_cases hi0 : i = 0
    · subst hi0
      exact ⟨r, Ev.step e0 (Ev.bind hr0 (Ev.congr (fun k => by rw [if_pos rfl, if_neg (by omega)]) hr)), hri.trans ⟨fun h => ⟨hok, (fun q hq => by cases hq), h⟩, fun h => h.2.2⟩⟩
    have hpos : (i : Int) > 0 := by omega
    have hap := adj_prev (d := d) (i := i) (by omega) True
    rw [← hsd] at hap
    rw [hap] at bad ⊢
    obtain ⟨p, hp⟩ : ∃ p, p = rd_T70 d ((i : Int) - 1) := ⟨_, rfl⟩
    rw [← hp] at hap bad e0 ⊢
    have hpsm : SSm p := by
      have := hs.2 _ (rd70_mem (l := d) (i := i - 1) (by omega))
      rw [show ((i - 1 : Nat) : Int) = (i : Int) - 1 by omega, ← hp] at this
      exact this
    have hpk := hpv p (by
      obtain ⟨j, rfl⟩ : ∃ j, i = j + 1 := ⟨i - 1, by omega⟩
      rw [prev, hp, show ((j + 1 : Nat) : Int) - 1 = (j : Int) by omega])
    have hsk := stepok_kind hok
    have good : Adj p s → (∀ k, chanceryref1_DeltaError.l0 (k + 1) d b a (d.length : Int) (i : Int) = (chanceryref1_StepError.f k s.f0 s.f1 s.f2 s.f3).bind fun t => if t = 0 then chanceryref1_DeltaError.j1 k d b a (d.length : Int) (i : Int) s.f0 s.f1 s.f2 s.f3 else some t) → ∃ r : Int, Ev (fun k => chanceryref1_DeltaError.l0 k d b a (d.length : Int) (i : Int)) r ∧ (r = 0 ↔ (StepOK s ∧ Adj p s ∧ RestOK (some s) (d.drop (i + 1)) (b + oldS s) (a + newS s))) :=
      fun h1 h2 => ⟨r, Ev.step h2 (Ev.bind hr0 (Ev.congr (fun k => by rw [if_pos rfl]) hr)), hri.trans ⟨fun h => ⟨hok, h1, h⟩, fun h => h.2.2⟩⟩
    by_cases h1 : s.f0 = 1
    · by_cases h0 : p.f0 = 0
      · refine good ⟨fun h => by omega, fun h => by omega⟩ (fun k => ?_)
        rw [e0]
        congr 1
        funext t
        rw [if_pos hpos, if_pos h1, if_pos h0]
      · exact bad 5 (by decide) (Ev.step e0 (Ev.bind hr0 (Ev.congr (fun k => by rw [if_pos rfl, if_pos hpos, if_pos h1, if_neg h0]) (Ev.now 5)))) (fun h => by
          rcases hpk with h' | h' | h'
          · exact h0 h'
          · exact h.2.1.1 ⟨by omega, .inl (by omega)⟩
          · exact h.2.1.2 ⟨h', h1⟩)
    by_cases h2 : s.f0 = 2
    · by_cases h0 : p.f0 = 2
      · exact bad 5 (by decide) (Ev.step e0 (Ev.bind hr0 (Ev.congr (fun k => by rw [if_pos rfl, if_pos hpos, if_neg h1, if_pos h2, if_pos h0]) (Ev.now 5)))) (fun h => h.2.1.1 ⟨by omega, .inl (by omega)⟩)
      · refine good ⟨fun h => by omega, fun h => by omega⟩ (fun k => ?_)
        rw [e0]
        congr 1
        funext t
        rw [if_pos hpos, if_neg h1, if_pos h2, if_neg h0]
    have hs0 : s.f0 = 0 := by omega
    by_cases h0 : p.f0 = 0
    · obtain ⟨c, hc, hci⟩ := rsame_ev p.f2 s.f2 hpsm.1.1
      cases c with
      | true =>
        exact bad 5 (by decide) (Ev.step e0 (Ev.bind hr0 (Ev.congr (fun k => by rw [if_pos rfl, if_pos hpos, if_neg h1, if_neg h2, if_pos h0]) (Ev.bind hc (Ev.congr (fun k => by rw [if_pos rfl]) (Ev.now 5)))))) (fun h => h.2.1.1 ⟨by omega, .inr (hci.1 rfl)⟩)
      | false =>
        have hne : p.f2 ≠ s.f2 := fun h => by have := hci.2 h; cases this
        refine ⟨r, Ev.step e0 (Ev.bind hr0 (Ev.congr (fun k => by rw [if_pos rfl, if_pos hpos, if_neg h1, if_neg h2, if_pos h0]) (Ev.bind hc (Ev.congr (fun k => by rw [if_neg (by decide)]) hr)))), hri.trans ⟨fun h => ⟨hok, ⟨fun h => ?_, fun h => by omega⟩, h⟩, fun h => h.2.2⟩⟩
        rcases h.2 with h | h
        · exact h hs0
        · exact hne h
    · refine good ⟨fun h => by omega, fun h => by omega⟩ (fun k => ?_)
      rw [e0]
      congr 1
      funext t
      rw [if_pos hpos, if_neg h1, if_neg h2, if_neg h0]
theorem rcheck_ev (d : List S70) (hs : DSm d) : ∃ r : Int, Ev (fun k => chanceryref1_DeltaError.f k d) r ∧ (r = 0 ↔ DOK d) := by
  obtain ⟨r, hr, hri⟩ := rcheck_l0 d hs d.length 0 0 0 (by omega) (by omega) (by omega) (by omega) (by omega) (fun q hq => by cases hq)
  exact ⟨r, hr, hri.trans (dok_rest d)⟩
inductive Un where
  | keep (t : List S38)
  | cut
  | add (x : S84)
def us (s : S70) : List Un := if s.f0 = 0 then List.replicate s.f1.toNat (.keep s.f2) else if s.f0 = 1 then s.f3.map .add else List.replicate s.f1.toNat .cut
def units (d : List S70) : List Un := d.flatMap us
def app (t : List S38) (x : S84) : S84 := ⟨x.f0, x.f1, mrg rawE x.f2 t⟩
def run : List S84 → List Un → List S84 × List S84
  | f, [] => ([], f)
  | f, .add x :: u => (x :: (run f u).1, (run f u).2)
  | [], .keep _ :: u => run [] u
  | x :: f, .keep t :: u => (app t x :: (run f u).1, (run f u).2)
  | [], .cut :: u => run [] u
  | _ :: f, .cut :: u => run f u
theorem units_nil : units [] = [] := rfl
theorem units_cons (s : S70) (d : List S70) : units (s :: d) = us s ++ units d := rfl
theorem units_app (a b : List S70) : units (a ++ b) = units a ++ units b := by simp [units]
theorem run_app (a b : List Un) : ∀ f : List S84, run f (a ++ b) = ((run f a).1 ++ (run (run f a).2 b).1, (run (run f a).2 b).2) := by
  induction a with
  | nil => intro f; rfl
  | cons x a ih =>
    intro f
    cases x with
    | add x => simp only [List.cons_append, run, ih]
    | keep t => cases f <;> simp only [List.cons_append, run, ih]
    | cut => cases f <;> simp only [List.cons_append, run, ih]
theorem run_adds : ∀ (l f : List S84), run f (l.map .add) = (l, f)
  | [], f => rfl
  | x :: l, f => by rw [List.map_cons, run, run_adds l f]
def LB (n : Nat) (f : List S84) : Prop := f.length ≤ n ∧ ∀ x ∈ f, x.f2.length ≤ n
theorem pok_mem {f : List S84} : POK f ↔ ∀ x ∈ f, ElemOK x := by
  constructor
  · intro h x hx
    obtain ⟨i, h0, h1, rfl⟩ := memf_rd hx
    exact h i h0 h1
  · intro h j h0 h1
    exact h _ (rdf_mem h0 h1)
theorem va_small {ch : Bool} {l : List S38} (h : VA ch l) (hl : l.length ≤ 1099511627776) : Small l := by
  refine ⟨hl, fun x hx => ?_⟩
  obtain ⟨h1, h2⟩ := h.1 x hx
  have := h1.2.1
  refine ⟨by omega, ?_⟩
  rcases h2 with h2 | ⟨_, h2⟩
  · have := h2.2.1; omega
  · omega
theorem fsmall {n : Nat} {f : List S84} (h : POK f) (hl : LB n f) (hn : n ≤ 1073741824) : FSmall f := by
  refine ⟨Nat.le_trans hl.1 hn, fun x hx => ?_⟩
  have h1 := hl.2 x hx
  exact ⟨va_small (pok_mem.1 h x hx).2 (by omega), by omega⟩
def DB (n : Nat) (d : List S70) : Prop := d.length ≤ n ∧ ∀ s ∈ d, s.f2.length ≤ n ∧ LB n s.f3
theorem stepok_small {n : Nat} {s : S70} (h : StepOK s) (h1 : s.f2.length ≤ n) (h2 : LB n s.f3) (hn : n ≤ 1073741824) : SSm s := by
  rcases h with h | h | h
  · exact ⟨va_small h.2.2.2.2 (by omega), by rw [h.2.2.2.1]; exact ⟨Nat.zero_le _, fun x hx => by cases hx⟩⟩
  · exact ⟨by rw [h.2.2.1]; exact ⟨Nat.zero_le _, fun x hx => by cases hx⟩, fsmall h.2.2.2.2 h2 hn⟩
  · exact ⟨by rw [h.2.2.2.2]; exact ⟨Nat.zero_le _, fun x hx => by cases hx⟩, by rw [h.2.2.2.1]; exact ⟨Nat.zero_le _, fun x hx => by cases hx⟩⟩
theorem dsm {n : Nat} {d : List S70} (h : ∀ s ∈ d, StepOK s) (hd : DB n d) (hn : n ≤ 1073741824) : DSm d :=
  ⟨Nat.le_trans hd.1 hn, fun s hs => stepok_small (h s hs) (hd.2 s hs).1 (hd.2 s hs).2 hn⟩
theorem us_keep {s : S70} (h : s.f0 = 0) : us s = List.replicate s.f1.toNat (.keep s.f2) := if_pos h
theorem us_add {s : S70} (h : s.f0 = 1) : us s = s.f3.map .add := by unfold us; rw [if_neg (by omega), if_pos h]
theorem us_cut {s : S70} (h : s.f0 = 2) : us s = List.replicate s.f1.toNat .cut := by unfold us; rw [if_neg (by omega), if_neg (by omega)]
def dofB (k : Nat) (o : List S70) (attrs : List S38) : Option Bool :=
  if 0 < o.length then (if (rd_T70 o ((o.length : Int) - 1)).f0 = 0 then chanceryref1_SameAttrs.f k (rd_T70 o ((o.length : Int) - 1)).f2 attrs else some false) else some false
def dofL (k : Nat) : List (List S84) → List Bool → List (List S38) → List S70 → List S84 → Int → Option (List S70)
  | a :: As, c :: Cs, t :: Ts, out, adds, cuts => if 1099511627776 < out.length ∨ 1099511627776 < adds.length + a.length then none else
    if c = true then dofL k As Cs Ts out (adds ++ a) (wrap64 (cuts + 1)) else (dofB k (flushD out (adds ++ a) cuts) t).bind fun b => dofL k As Cs Ts (keepO (flushD out (adds ++ a) cuts) 1 t b) [] 0
  | a :: _, [], _, out, adds, cuts => if 1099511627776 < out.length ∨ 1099511627776 < adds.length + a.length then none else some (flushD out (adds ++ a) cuts)
  | _, _, _, _, _, _ => none
structure DfO (w : World) (ga : Nat) (cs : Array Value) (out : List S70) (v : Value) (wr : World) : Prop where
  bk : wr.heap[ga]? = some (.cells cs 123 (0, 0))
  row : Kd.N k70 70 wr w.heap.size (fun _ => True) v out
  bel : Below w.heap.size w wr
structure DfS (w : World) (ga : Nat) (cs : Array Value) (out : List S70) (adds : List S84) (v u : Value) (wr : World) : Prop where
  bk : wr.heap[ga]? = some (.cells cs 123 (0, 0))
  row : Kd.N k70 70 wr w.heap.size (fun k => some k ≠ u.ownBlock) v out
  radd : Kd.N k84 84 wr w.heap.size (fun k => some k ≠ v.ownBlock) u adds
  bel : Below w.heap.size w wr
section
variable {w wr w1 : World} {ga : Nat} {cs : Array Value} {out out' : List S70} {adds adds' : List S84} {v u v1 u1 : Value}
theorem DfS.weak (h : DfS w ga cs out adds v u wr) : DfO w ga cs out v wr := ⟨h.bk, Kd.N_mono h.row (fun _ _ => trivial), h.bel⟩
theorem DfO.clear (h : DfO w ga cs out v wr) : DfS w ga cs out [] v (.slice none 0 0) wr := ⟨h.bk, Kd.N_mono h.row (fun _ _ => by simp [Value.ownBlock]), Kd.N_nil _ _ _ _ _, h.bel⟩
theorem DfO.app (h : DfO w ga cs out v wr) (hR : Kd.N k70 70 w1 w.heap.size (fun _ => True) v1 out') (hB : Below w.heap.size w w1) (hg : wr.grownBy w1 v.ownBlock) : DfO w ga cs out' v1 w1 := ⟨blk_grown h.bk hg (Kd.N_ne h.row h.bk (by decide)), hR, hB⟩
theorem DfO.drew (h : DfO w ga cs out v wr) : DfO w ga cs out v wr.drew := ⟨blk_drew h.bk, Kd.N_drew h.row, below_drew1 h.bel⟩
theorem DfO.drewN (h : DfO w ga cs out v wr) (n : Nat) : DfO w ga cs out v (wr.drewN n) := ⟨blk_drewN h.bk n, Kd.N_drewN h.row n, pw_below_drewN h.bel n⟩
theorem DfS.appu (h : DfS w ga cs out adds v u wr) (hR : Kd.N k84 84 w1 w.heap.size (fun k => some k ≠ v.ownBlock) u1 adds') (hB : Below w.heap.size w w1) (hg : wr.grownBy w1 u.ownBlock) (hat : u1.ownBlock = u.ownBlock ∨ ∃ b, u1.ownBlock = some b ∧ wr.heap.size ≤ b) : DfS w ga cs out adds' v u1 w1 :=
  ⟨blk_grown h.bk hg (Kd.N_ne h.radd h.bk (by decide)), Kd.N_mono (Kd.N_afterv (ok := fun _ => True) (Kd.N_mono h.row (fun _ hk => ⟨trivial, hk⟩)) hg hat) (fun _ hk => hk.2), hR, hB⟩
theorem DfS.far (h : DfS w ga cs out adds v u wr) (k : Nat) (hk : k < w.heap.size) : some k ≠ v.ownBlock ∧ some k ≠ u.ownBlock :=
  ⟨fun e => by have := Kd.N_base h.row k e.symm; omega, fun e => by have := Kd.N_base h.radd k e.symm; omega⟩
theorem DfS.fresh (h : DfS w ga cs out adds v u wr) (k : Nat) (hk : wr.heap.size ≤ k) : some k ≠ v.ownBlock ∧ some k ≠ u.ownBlock :=
  ⟨fun e => by have := Kd.N_lt h.row k e.symm; omega, fun e => by have := Kd.N_lt h.radd k e.symm; omega⟩
end
theorem drop_L5 (l : List (List S84)) (i : Nat) (h : i < l.length) : l.drop i = rd_L5 l (i : Int) :: l.drop (i + 1) := by
  rw [List.drop_eq_getElem_cons h]
  simp [rd_L5, List.getD_eq_getElem?_getD, List.getElem?_eq_getElem h]
theorem drop_L3 (l : List (List S38)) (i : Nat) (h : i < l.length) : l.drop i = rd_L3 l (i : Int) :: l.drop (i + 1) := by
  rw [List.drop_eq_getElem_cons h]
  simp [rd_L3, List.getD_eq_getElem?_getD, List.getElem?_eq_getElem h]
theorem drop_B (l : List Bool) (i : Nat) (h : i < l.length) : l.drop i = rdOf false l (i : Int) :: l.drop (i + 1) := by
  rw [List.drop_eq_getElem_cons h]
  simp [rdOf, List.getD_eq_getElem?_getD, List.getElem?_eq_getElem h]
set_option maxRecDepth 100000 in
set_option maxHeartbeats 4000000 in
theorem dof_calls (k : Nat) (A0 : Option Addr) (c0 : Nat) (l0 : List (List S84)) (A1 : Option Addr) (c1 : Nat) (l1 : List Bool) (A2 : Option Addr) (c2 : Nat) (l2 : List (List S38)) (r : List S70) (w : World) (h0 : Kd.C (Kd.slice 84 k84) w A0 l0.length l0) (h1 : Kd.C Kd.bool w A1 l1.length l1) (h2 : Kd.C (Kd.slice 38 k38) w A2 l2.length l2)
    (hl0 : l0.length = l1.length + 1) (hl2 : l2.length = l1.length) (hl : l1.length ≤ 1099511627776) (hf : dofL k l0 l1 l2 [] [] 0 = some r) :
    Calls Try.prog 84 #[.agg #[.slice A0 l0.length c0, .slice A1 l1.length c1, .slice A2 l2.length c2]] w fun e w' => ∃ v0_ : Value, e = .returned v0_ ∧ Kd.N k70 70 w' w.heap.size (fun _ => True) v0_ r ∧ Below w.heap.size w w' := by
  have hu70 := Try.underlying70
  have hu123 := Try.underlying123
  have HR0 := Aside0.mk h0
  have HR1 := Aside0.mk h1
  have HR2 := Aside0.mk h2
  have HL0 := Aside0.mk hl0
  have HL2 := Aside0.mk hl2
  have HLN := Aside0.mk hl
  have HZ := Aside0.mk (show dofL k (l0.drop 0) (l1.drop 0) (l2.drop 0) [] [] 0 = some r from hf)
  clear h0 h1 h2 hl0 hl2 hl hf
  go_enter Try.func84, Try.ntmps84
  go_wp2_with ((with_reducible refine gate_dst (N := 1) rfl ?_); refine box_event ?hg (N := 1) ?hd (cs := #[.slice A0 l0.length c0, .slice A1 l1.length c1, .slice A2 l2.length c2]) (t := 123) ?hr ?_; (case hd => rfl); (case hg => rfl); (case hr => first | (go_simp; done) | (go_simp; rfl)); intro ga hg w2 hbox hb; have HJ0 := Aside0.mk (show DfS w ga #[.slice A0 l0.length c0, .slice A1 l1.length c1, .slice A2 l2.length c2] [] [] (.slice none 0 0) (.slice none 0 0) w2 from ⟨hbox, Kd.N_nil _ _ _ _ _, Kd.N_nil _ _ _ _ _, hb⟩); clear hb hbox hg)
  go_loopg [3, 4, 5, 6] (l1.length + 1) (fun m v3 v4 v5 v6 wr => ∃ (i : Nat) (out : List S70) (adds : List S84) (cuts : Int), v5 = .int .i64 cuts ∧ v6 = .int .i64 (i : Int) ∧ Aside0 (m + i = l1.length + 1) ∧ Aside0 (DfS w ga #[.slice A0 l0.length c0, .slice A1 l1.length c1, .slice A2 l2.length c2] out adds v3 v4 wr) ∧ Aside0 (dofL k (l0.drop i) (l1.drop i) (l2.drop i) out adds cuts = some r))
  case atStart => exact ⟨0, [], [], 0, rfl, rfl, ⟨rfl⟩, HJ0, HZ⟩
  case round =>
    clear HJ0 HZ
    obtain ⟨i, out, adds, cuts, rfl, rfl, HI, HD, HL⟩ := hrel
    cases gk with
    | zero =>
      exact absurd HL.out (by rw [List.drop_eq_nil_of_le (by have := HI.out; have := HL0.out; omega)]; simp [dofL])
    | succ gl =>
    have hi : i ≤ l1.length := by have := HI.out; omega
    have hi0 : i < l0.length := by have := HL0.out; omega
    have hL := HL.out
    rw [drop_L5 l0 i hi0] at hL
    have g1 : decide ((i : Int) ≤ (l1.length : Int)) = true := decide_eq_true (by omega)
    have g1' : decide (i ≤ l1.length) = true := decide_eq_true hi
    have q0 : (i : Int) < (l0.length : Int) := by omega
    obtain ⟨ad0, B0, m0, e0, hx0, hm0, hC0⟩ := at_L5 HR0.out (i : Int) (by omega) q0
    cases e0
    replace hx0 := (HD.out.bel.cell (World.block_lt_of_cell? w _ hx0)).trans hx0
    simp only [Int.toNat_natCast] at hx0
    obtain ⟨a, ha⟩ : ∃ a, a = rd_L5 l0 (i : Int) := ⟨_, rfl⟩
    rw [← ha] at hx0 hm0 hC0 hL
    have HFA := Aside0.mk (Kd.F_step (Kd.C_F k84_heap hC0) (fun k hk _ => HD.out.bel.block k hk))
    have c0 : wr.cell? ⟨ga, 0, none⟩ = some (.slice (some ad0) l0.length c0) := (blk_cell HD.out.bk 0).trans rfl
    have c1' : wr.cell? ⟨ga, 1, none⟩ = some (.slice A1 l1.length c1) := (blk_cell HD.out.bk 1).trans rfl
    have hbig : ¬ (1099511627776 < out.length ∨ 1099511627776 < adds.length + a.length) := by
      intro hb
      by_cases hlt : i < l1.length
      · rw [drop_B l1 i hlt, drop_L3 l2 i (by have := HL2.out; omega)] at hL
        simp only [dofL] at hL
        rw [if_pos hb] at hL
        cases hL
      · rw [List.drop_eq_nil_of_le (show l1.length ≤ i by omega), List.drop_eq_nil_of_le (show l2.length ≤ i by have := HL2.out; omega)] at hL
        simp only [dofL] at hL
        rw [if_pos hb] at hL
        cases hL
    have HBG := Aside0.mk hbig
    obtain ⟨A4, n4, hu4⟩ := Kd.N_slice HD.out.radd
    subst hu4
    have HLI := Aside0.mk hL
    clear hbig hL HL ha hm0 hC0 hi0
    go_upto_region 8 with (at_builtin; refine Kd.N_append_rows k84 (w0 := w) w.heap.size rfl (.tmp 15) (.tmp 20) 63 84 (.agg #[(.int .i64 0), (.int .i64 0), (.slice none 0 0)]) 40 rfl Try.underlying63 info84 rfl (by decide) (by decide) _ adds a _ _ _ (fun k => some k ≠ u3.ownBlock) (fun k => k < w.heap.size) rfl rfl HD.out.radd HFA.out (fun k hk => HD.out.far k hk) (fun k hk => (HD.out.fresh k hk).1) HD.out.bel HD.out.bel.size (by have := HBG.out; omega) ?_; intro v1 w3 hR hB hg hat; have HD3 := Aside0.mk (HD.out.appu hR hB hg hat); clear hR hB hg hat)
    obtain ⟨al, hal⟩ : ∃ l : List S84, l = adds ++ a := ⟨_, rfl⟩
    rw [← hal] at HD3
    have HAL := Aside0.mk hal
    clear hal c0 c1' hx0 HFA
    obtain ⟨A5, n5, hv1⟩ := Kd.N_slice HD3.out.radd
    subst hv1
    clear HD
    obtain ⟨A3, n3, hu3⟩ := Kd.N_slice HD3.out.row
    subst hu3
    obtain ⟨cc, hcc⟩ : ∃ c : Bool, c = (decide (i < l1.length) && rdOf false l1 (i : Int)) := ⟨_, rfl⟩
    have HCC := Aside0.mk hcc
    clear hcc
    go_cut [33] (fun v33 wx => v33 = .bool cc ∧ wx = w3)
    case first =>
      have d1 : w3.cell? ⟨ga, 1, none⟩ = some (.slice A1 l1.length c1) := (blk_cell HD3.out.bk 1).trans rfl
      by_cases hlt : i < l1.length
      · have g2 : decide ((i : Int) < (l1.length : Int)) = true := decide_eq_true (by omega)
        have g2' : decide (i < l1.length) = true := decide_eq_true hlt
        have q1 : (i : Int) < (l1.length : Int) := by omega
        obtain ⟨ad1, e1, hx1⟩ := Kd.at_bool HR1.out (i : Int) (by omega) q1
        cases e1
        replace hx1 := (HD3.out.bel.cell (World.block_lt_of_cell? w _ hx1)).trans hx1
        simp only [Int.toNat_natCast] at hx1
        have hcv := HCC.out
        rw [g2', Bool.true_and] at hcv
        have HCV := Aside0.mk hcv
        clear hcv hlt
        go_wp2
        go_meet
        case rel => exact ⟨by rw [HCV.out], rfl⟩
      · have g2 : decide ((i : Int) < (l1.length : Int)) = false := decide_eq_false (by omega)
        have g2' : decide (i < l1.length) = false := decide_eq_false hlt
        have hcv := HCC.out
        rw [g2', Bool.false_and] at hcv
        have HCV := Aside0.mk hcv
        clear hcv hlt
        go_wp2
        go_meet
        case rel => exact ⟨by rw [HCV.out], rfl⟩
    case rest =>
    obtain ⟨rfl, rfl⟩ := hcut
    cases cc with
    | true =>
      have hlt : i < l1.length := by
        have := HCC.out
        simp only [Bool.true_eq, Bool.and_eq_true, decide_eq_true_eq] at this
        exact this.1
      have hL := HLI.out
      have hcv : rdOf false l1 (i : Int) = true := by
        have := HCC.out
        simp only [Bool.true_eq, Bool.and_eq_true, decide_eq_true_eq] at this
        exact this.2
      rw [drop_B l1 i hlt, drop_L3 l2 i (by have := HL2.out; omega)] at hL
      simp only [dofL] at hL
      rw [if_neg HBG.out, if_pos hcv, ← HAL.out] at hL
      have HL := Aside0.mk hL
      have wk : wrap64 ((i : Int) + 1) = (i : Int) + 1 := by have := HLN.out; unfold wrap64; omega
      have HIG := Aside0.mk (show gl + (i + 1) = l1.length + 1 by have := HI.out; omega)
      clear hL hcv hlt hi
      go_wp2
      go_roundg gl
      case measure => omega
      case rel => exact ⟨i + 1, out, al, wrap64 (cuts + 1), rfl, by simp [wk], HIG, HD3, HL⟩
    | false =>
      obtain ⟨ta, hta⟩ : ∃ t : Bool, decide (0 < (al.length : Int)) = t := ⟨_, rfl⟩
      have hta2 : decide (0 < al.length) = ta := by rw [← hta]; exact decide_eq_decide.mpr (by omega)
      have HOL := Aside0.mk (show out.length ≤ 1099511627776 by have := HBG.out; omega)
      go_upto_if 38 with (fail)
      go_cut [3] (fun v3 wx => Aside0 (DfO w ga #[.slice (some ad0) l0.length c0, .slice A1 l1.length c1, .slice A2 l2.length c2] (addD out al) v3 wx))
      case first =>
        cases ta with
        | false =>
          have hadd := of_decide_eq_false hta2
          have e : addD out al = out := if_neg hadd
          go_wp2
          go_meet
          case rel => exact ⟨by rw [e]; exact HD3.out.weak⟩
        | true =>
          have hadd := of_decide_eq_true hta2
          have e : addD out al = out ++ [⟨1, 0, [], al⟩] := if_pos hadd
          have HE := Aside0.mk e
          clear hadd e
          go_wp2_with (at_builtin; refine Kd.N_append k70 (w0 := w) w.heap.size rfl (.tmp 39) (.tmp 42) 64 70 (.agg #[.int .i64 0, .int .i64 0, .slice none 0 0, .slice none 0 0]) 64 rfl Try.underlying64 info70 rfl (by decide) (by decide) _ out ⟨1, 0, [], al⟩ _ (fun _ => True) (fun k => some k ≠ (Value.slice A3 out.length n3).ownBlock) rfl (by simp [Act.eval]) (k70_mkF _ _ ⟨1, 0, [], al⟩ (Nat.le_refl 0) (Kd.F_nil _ _ _) (Kd.N_reads' HD3.out.radd).2.1 (Kd.N_F HD3.out.radd)) (fun _ hk => ⟨trivial, hk⟩) (fun _ _ => trivial) HD3.out.weak.row HD3.out.bel HD3.out.bel.size (by have := HOL.out; omega) ?_; intro v1 w4 hR hB hg hat; have HW := Aside0.mk (HD3.out.weak.app hR hB hg); clear hR hB hg hat)
          go_meet
          case rel => exact ⟨by rw [HE.out]; exact HW.out⟩
      case rest =>
      clear hta hta2
      obtain ⟨l2', hl2'⟩ : ∃ l : List S70, l = addD out al := ⟨_, rfl⟩
      have HLEN := Aside0.mk (show l2'.length ≤ out.length + 1 by rw [hl2']; unfold addD; split <;> simp)
      rw [← hl2'] at hcut
      have HL2' := Aside0.mk hl2'
      clear hl2'
      obtain ⟨A6, n6, hv6⟩ := Kd.N_slice hcut.out.row
      subst hv6
      have HO2 := hcut
      clear hcut HD3
      obtain ⟨tb, htb⟩ : ∃ t : Bool, decide (0 < cuts) = t := ⟨_, rfl⟩
      go_upto_if 45 with (fail)
      go_cut [3] (fun v3 wx => Aside0 (DfO w ga #[.slice (some ad0) l0.length c0, .slice A1 l1.length c1, .slice A2 l2.length c2] (cutD l2' cuts) v3 wx))
      case first =>
        cases tb with
        | false =>
          have hadd := of_decide_eq_false htb
          have e : cutD l2' cuts = l2' := if_neg hadd
          go_wp2
          go_meet
          case rel => exact ⟨by rw [e]; exact HO2.out⟩
        | true =>
          have hadd := of_decide_eq_true htb
          have e : cutD l2' cuts = l2' ++ [⟨2, cuts, [], []⟩] := if_pos hadd
          have HE := Aside0.mk e
          clear hadd e
          go_wp2_with (at_builtin; refine Kd.N_append k70 (w0 := w) w.heap.size rfl (.tmp 46) (.tmp 49) 64 70 (.agg #[.int .i64 0, .int .i64 0, .slice none 0 0, .slice none 0 0]) 64 rfl Try.underlying64 info70 rfl (by decide) (by decide) _ l2' ⟨2, cuts, [], []⟩ _ (fun _ => True) (fun _ => False) rfl (by simp [Act.eval]) (k70_mkF _ _ ⟨2, cuts, [], []⟩ (Nat.le_refl 0) (Kd.F_nil _ _ _) (Nat.le_refl 0) (Kd.F_nil _ _ _)) (fun _ hk => hk.elim) (fun _ _ => trivial) HO2.out.row HO2.out.bel HO2.out.bel.size (by have := HOL.out; have := HLEN.out; omega) ?_; intro v1 w4 hR hB hg hat; have HW := Aside0.mk (HO2.out.app hR hB hg); clear hR hB hg hat)
          go_meet
          case rel => exact ⟨by rw [HE.out]; exact HW.out⟩
      case rest =>
      clear htb
      obtain ⟨o, ho⟩ : ∃ l : List S70, l = cutD l2' cuts := ⟨_, rfl⟩
      have HOO := Aside0.mk (show flushD out al cuts = o by rw [ho, HL2'.out]; rfl)
      have HLO := Aside0.mk (show o.length ≤ 1099511627778 by have h1 := HOL.out; have h2 := HLEN.out; rw [ho]; unfold cutD; split <;> simp <;> omega)
      rw [← ho] at hcut
      clear ho HO2 HLEN HL2'
      obtain ⟨A7, n7, hv7⟩ := Kd.N_slice hcut.out.row
      subst hv7
      have HO := hcut
      clear hcut
      have e1 : wc.cell? ⟨ga, 1, none⟩ = some (.slice A1 l1.length c1) := (blk_cell HO.out.bk 1).trans rfl
      by_cases hlt : i < l1.length
      rotate_left
      · have hie : i = l1.length := by omega
        have g3 : ((i : Int) == (l1.length : Int)) = true := beq_iff_eq.mpr (by omega)
        have g3' : (i == l1.length) = true := beq_iff_eq.mpr hie
        have hL := HLI.out
        rw [List.drop_eq_nil_of_le (show l1.length ≤ i by omega), List.drop_eq_nil_of_le (show l2.length ≤ i by have := HL2.out; omega)] at hL
        simp only [dofL] at hL
        rw [if_neg HBG.out, ← HAL.out, HOO.out] at hL
        injection hL with hL
        have HLR := Aside0.mk hL
        clear hL hlt hi hie
        go_wp2
        first | go_ret | go_ret2
        exact ⟨_, rfl, by rw [← HLR.out]; exact HO.out.row, HO.out.bel⟩
      have g3 : ((i : Int) == (l1.length : Int)) = false := beq_eq_false_iff_ne.mpr (by omega)
      have g3' : (i == l1.length) = false := beq_eq_false_iff_ne.mpr (by omega)
      have hL := HLI.out
      have hcv : rdOf false l1 (i : Int) = false := by
        have h1 := HCC.out
        rw [decide_eq_true hlt, Bool.true_and] at h1
        exact h1.symm
      rw [drop_B l1 i hlt, drop_L3 l2 i (by have := HL2.out; omega)] at hL
      simp only [dofL] at hL
      rw [if_neg HBG.out, hcv, if_neg (by decide), ← HAL.out, HOO.out] at hL
      obtain ⟨b, hb, hL⟩ := Option.bind_eq_some_iff.1 hL
      have q2 : (i : Int) < (l2.length : Int) := by have := HL2.out; omega
      obtain ⟨ad2, B2, m2, e2, hx2, hm2, hC2⟩ := at_L3 HR2.out (i : Int) (by omega) q2
      cases e2
      have HX2 := Aside0.mk hx2
      obtain ⟨t, ht⟩ : ∃ a, a = rd_L3 l2 (i : Int) := ⟨_, rfl⟩
      rw [← ht] at HX2 hm2 hC2 hL hb
      have HC2 := Aside0.mk hC2
      have HM2 := Aside0.mk hm2
      have HB := Aside0.mk hb
      have HL := Aside0.mk hL
      have HIG := Aside0.mk (show gl + (i + 1) = l1.length + 1 by have := HI.out; omega)
      have wk : wrap64 ((i : Int) + 1) = (i : Int) + 1 := by have := HLN.out; unfold wrap64; omega
      have hlen := HLO.out
      clear hx2 ht hm2 hC2 hb hL hcv hlt hi HLI HCC
      go_upto_region 17 with (fail)
      go_cut [81] (fun v81 wx => v81 = .bool b ∧ Aside0 (DfO w ga #[.slice (some ad0) l0.length c0, .slice A1 l1.length c1, .slice (some ad2) l2.length c2] o (.slice A7 o.length n7) wx))
      case first =>
        have hb := HB.out
        by_cases hz : 0 < o.length
        · have p0 : 0 ≤ (o.length : Int) - 1 := by omega
          have p0b : decide (1 ≤ (o.length : Int)) = true := decide_eq_true (by omega)
          have p0c : ((1 : Int) ≤ (o.length : Int)) = True := eq_true (by omega)
          have r0 : (o.length : Int) - 1 < (o.length : Int) := by omega
          obtain ⟨go, co, eo, gb, gl2, cells, hblk⟩ := Kd.N_form HO.out.row hz
          injection eo with ea en ec
          subst ea
          subst ec
          clear en
          obtain ⟨ce, hcl, hM, hcc, hfr⟩ := Kd.N_elem HO.out.row z70 ((o.length : Int) - 1) p0 r0
          obtain ⟨D2, k2, D3, k3, rfl, hm2, hF2, hm3, hF3⟩ := k70_openF hM
          have hix : ∀ j, (((o.length : Int) - 1).toNat * k70.sz + j) = (o.length - 1) * 4 + j := fun j => by show (((o.length : Int) - 1).toNat * 4 + j) = _; omega
          have hy0 : wc.cell? ⟨go, (o.length - 1) * 4, none⟩ = some (.int .i64 (rd_T70 o ((o.length : Int) - 1)).f0) := by
            have := hcc 0 _ rfl
            rwa [hix] at this
          have hy2 : wc.cell? ⟨go, (o.length - 1) * 4 + 2, none⟩ = some (.slice D2 (rd_T70 o ((o.length : Int) - 1)).f2.length k2) := by
            have := hcc 2 _ rfl
            rwa [hix] at this
          rw [dofB, if_pos hz] at hb
          by_cases hkp : (rd_T70 o ((o.length : Int) - 1)).f0 = 0
          · rw [if_pos hkp] at hb
            have c4 : ((rd_T70 o ((o.length : Int) - 1)).f0 == 0) = true := beq_iff_eq.mpr hkp
            have HB' := Aside0.mk hb
            have HK2 := Aside0.mk (show (rd_T70 o ((o.length : Int) - 1)).f2.length ≤ k2 from hm2)
            have HF2 := Aside0.mk (show Kd.C k38 wc D2 (rd_T70 o ((o.length : Int) - 1)).f2.length (rd_T70 o ((o.length : Int) - 1)).f2 from Kd.F_now hF2)
            have HX2' := Aside0.mk ((HO.out.bel.cell (World.block_lt_of_cell? w _ HX2.out)).trans HX2.out)
            have hx2 := HX2'.out
            simp only [Int.toNat_natCast] at hx2
            clear hb hm2 hF2 hm3 hF3 hM hcc hcl gb hkp gl2 hblk hfr hix
            refine start_ (n := 23) (S := fun w' => w'.cell? ⟨go, (o.length - 1) * 4, none⟩ = some (.int .i64 (rd_T70 o ((o.length : Int) - 1)).f0) ∧ w'.cell? ⟨go, (o.length - 1) * 4 + 2, none⟩ = some (.slice D2 (rd_T70 o ((o.length : Int) - 1)).f2.length k2) ∧ w'.cell? ⟨ga, 2, none⟩ = some (.slice (some ad2) l2.length c2) ∧ w'.cell? (ad2.add i) = some (.slice B2 t.length m2)) (ds := [21]) #[false, false, false, false, false, false, false, false, false, false, false, false, false, false, false, false, false, false, false, false, false, false, false] (by kernel_rfl) rfl rfl ⟨hy0, hy2, ((blk_cell HO.out.bk 2).trans rfl), hx2⟩ (fun hHeld => ?_)
            refine pure_ (i := 0) (N := some 59) (v := ?_) (a' := ?_) (bm 1 23) rfl rfl (by kernel_rfl) (fun _ _ _ h => h) (Or.inl ⟨by rfl, ?_⟩) ?_ ?_
            rotate_left
            · intro w'
              go_simp
              with_reducible rfl
            rotate_left
            · simp only [Act.put, List.setIfInBounds_toArray, List.set_cons_zero, List.set_cons_succ, i64_w, i32_w]
              rfl
            refine pure_ (i := 1) (N := some 60) (v := ?_) (a' := ?_) (bm 3 23) rfl rfl (by kernel_rfl) (fun _ _ _ h => h) (Or.inl ⟨by rfl, ?_⟩) ?_ ?_
            rotate_left
            · intro w'
              go_simp
              with_reducible rfl
            rotate_left
            · simp only [Act.put, List.setIfInBounds_toArray, List.set_cons_zero, List.set_cons_succ, i64_w, i32_w]
              rfl
            refine pure_ (i := 2) (N := some 61) (v := ?_) (a' := ?_) (bm 7 23) rfl rfl (by kernel_rfl) (fun _ _ _ h => h) (Or.inl ⟨by rfl, ?_⟩) ?_ ?_
            rotate_left
            · intro w'
              go_simp
              with_reducible rfl
            rotate_left
            · simp only [Act.put, List.setIfInBounds_toArray, List.set_cons_zero, List.set_cons_succ, i64_w, i32_w]
              rfl
            refine pure_ (i := 3) (N := some 62) (v := ?_) (a' := ?_) (bm 15 23) rfl rfl (by kernel_rfl) (fun _ _ _ h => h) (Or.inl ⟨by rfl, ?_⟩) ?_ ?_
            rotate_left
            · intro w'
              go_simp
              with_reducible rfl
            rotate_left
            · simp only [Act.put, List.setIfInBounds_toArray, List.set_cons_zero, List.set_cons_succ, i64_w, i32_w]
              rfl
            refine pure_ (i := 4) (N := some 63) (v := ?_) (a' := ?_) (bm 31 23) rfl rfl (by kernel_rfl) (fun _ _ _ h => h) (Or.inl ⟨by rfl, ?_⟩) ?_ ?_
            rotate_left
            · intro w'
              go_simp
              with_reducible rfl
            rotate_left
            · simp only [Act.put, List.setIfInBounds_toArray, List.set_cons_zero, List.set_cons_succ, i64_w, i32_w]
              rfl
            refine pure_ (i := 5) (N := some 64) (v := ?_) (a' := ?_) (bm 63 23) rfl rfl (by kernel_rfl) (fun _ _ _ h => h) (Or.inl ⟨by rfl, ?_⟩) ?_ ?_
            rotate_left
            · intro w'
              go_simp
              with_reducible rfl
            rotate_left
            · simp only [Act.put, List.setIfInBounds_toArray, List.set_cons_zero, List.set_cons_succ, i64_w, i32_w]
              rfl
            refine pure_ (i := 6) (N := some 65) (v := ?_) (a' := ?_) (bm 127 23) rfl rfl (by kernel_rfl) (fun _ _ _ h => h) (Or.inl ⟨by rfl, ?_⟩) ?_ ?_
            rotate_left
            · intro w'
              go_simp
              with_reducible rfl
            rotate_left
            · simp only [Act.put, List.setIfInBounds_toArray, List.set_cons_zero, List.set_cons_succ, i64_w, i32_w]
              rfl
            refine take_ (i := 7) (N := some 66) (v := ?_) (a' := ?_) (bm 255 23) rfl rfl (by kernel_rfl) (fun _ _ _ h => h) (Or.inl ⟨by rfl, ?_⟩) hHeld ?_ ?_
            rotate_left
            · rintro w' ⟨s0, s1, s2, s3⟩
              go_simp
              with_reducible rfl
            rotate_left
            · simp only [Act.put, List.setIfInBounds_toArray, List.set_cons_zero, List.set_cons_succ, i64_w, i32_w]
              rfl
            refine pure_ (i := 8) (N := some 67) (v := ?_) (a' := ?_) (bm 511 23) rfl rfl (by kernel_rfl) (fun _ _ _ h => h) (Or.inl ⟨by rfl, ?_⟩) ?_ ?_
            rotate_left
            · intro w'
              go_simp
              with_reducible rfl
            rotate_left
            · simp only [Act.put, List.setIfInBounds_toArray, List.set_cons_zero, List.set_cons_succ, i64_w, i32_w]
              rfl
            refine pure_ (i := 9) (N := some 68) (v := ?_) (a' := ?_) (bm 1023 23) rfl rfl (by kernel_rfl) (fun _ _ _ h => h) (Or.inl ⟨by rfl, ?_⟩) ?_ ?_
            rotate_left
            · intro w'
              go_simp
              with_reducible rfl
            rotate_left
            · simp only [Act.put, List.setIfInBounds_toArray, List.set_cons_zero, List.set_cons_succ, i64_w, i32_w]
              rfl
            refine pure_ (i := 10) (N := some 69) (v := ?_) (a' := ?_) (bm 2047 23) rfl rfl (by kernel_rfl) (fun _ _ _ h => h) (Or.inl ⟨by rfl, ?_⟩) ?_ ?_
            rotate_left
            · intro w'
              go_simp
              with_reducible rfl
            rotate_left
            · simp only [Act.put, List.setIfInBounds_toArray, List.set_cons_zero, List.set_cons_succ, i64_w, i32_w]
              rfl
            refine pure_ (i := 11) (N := some 70) (v := ?_) (a' := ?_) (bm 4095 23) rfl rfl (by kernel_rfl) (fun _ _ _ h => h) (Or.inl ⟨by rfl, ?_⟩) ?_ ?_
            rotate_left
            · intro w'
              go_simp
              with_reducible rfl
            rotate_left
            · simp only [Act.put, List.setIfInBounds_toArray, List.set_cons_zero, List.set_cons_succ, i64_w, i32_w]
              rfl
            refine pure_ (i := 12) (N := some 71) (v := ?_) (a' := ?_) (bm 8191 23) rfl rfl (by kernel_rfl) (fun _ _ _ h => h) (Or.inl ⟨by rfl, ?_⟩) ?_ ?_
            rotate_left
            · intro w'
              go_simp
              with_reducible rfl
            rotate_left
            · simp only [Act.put, List.setIfInBounds_toArray, List.set_cons_zero, List.set_cons_succ, i64_w, i32_w]
              rfl
            refine pure_ (i := 13) (N := some 72) (v := ?_) (a' := ?_) (bm 16383 23) rfl rfl (by kernel_rfl) (fun _ _ _ h => h) (Or.inl ⟨by rfl, ?_⟩) ?_ ?_
            rotate_left
            · intro w'
              go_simp
              with_reducible rfl
            rotate_left
            · simp only [Act.put, List.setIfInBounds_toArray, List.set_cons_zero, List.set_cons_succ, i64_w, i32_w]
              rfl
            refine pure_ (i := 14) (N := some 73) (v := ?_) (a' := ?_) (bm 32767 23) rfl rfl (by kernel_rfl) (fun _ _ _ h => h) (Or.inl ⟨by rfl, ?_⟩) ?_ ?_
            rotate_left
            · intro w'
              go_simp
              with_reducible rfl
            rotate_left
            · simp only [Act.put, List.setIfInBounds_toArray, List.set_cons_zero, List.set_cons_succ, i64_w, i32_w]
              rfl
            refine pure_ (i := 16) (N := some 75) (v := ?_) (a' := ?_) (bm 98303 23) rfl rfl (by kernel_rfl) (fun _ _ _ h => h) (Or.inl ⟨by rfl, ?_⟩) ?_ ?_
            rotate_left
            · intro w'
              go_simp
              with_reducible rfl
            rotate_left
            · simp only [Act.put, List.setIfInBounds_toArray, List.set_cons_zero, List.set_cons_succ, i64_w, i32_w]
              rfl
            refine pure_ (i := 18) (N := some 77) (v := ?_) (a' := ?_) (bm 360447 23) rfl rfl (by kernel_rfl) (fun _ _ _ h => h) (Or.inl ⟨by rfl, ?_⟩) ?_ ?_
            rotate_left
            · intro w'
              go_simp
              with_reducible rfl
            rotate_left
            · simp only [Act.put, List.setIfInBounds_toArray, List.set_cons_zero, List.set_cons_succ, i64_w, i32_w]
              rfl
            refine take_ (i := 15) (N := some 74) (v := ?_) (a' := ?_) (bm 393215 23) rfl rfl (by kernel_rfl) (fun _ _ _ h => h) (Or.inl ⟨by rfl, ?_⟩) hHeld ?_ ?_
            rotate_left
            · rintro w' ⟨s0, s1, s2, s3⟩
              go_simp
              with_reducible rfl
            rotate_left
            · simp only [Act.put, List.setIfInBounds_toArray, List.set_cons_zero, List.set_cons_succ, i64_w, i32_w]
              rfl
            refine take_ (i := 17) (N := some 76) (v := ?_) (a' := ?_) (bm 524287 23) rfl rfl (by kernel_rfl) (fun _ _ _ h => h) (Or.inl ⟨by rfl, ?_⟩) hHeld ?_ ?_
            rotate_left
            · rintro w' ⟨s0, s1, s2, s3⟩
              go_simp
              with_reducible rfl
            rotate_left
            · simp only [Act.put, List.setIfInBounds_toArray, List.set_cons_zero, List.set_cons_succ, i64_w, i32_w]
              rfl
            refine pure_ (i := 19) (N := some 78) (v := ?_) (a' := ?_) (bm 1048575 23) rfl rfl (by kernel_rfl) (fun _ _ _ h => h) (Or.inl ⟨by rfl, ?_⟩) ?_ ?_
            rotate_left
            · intro w'
              go_simp
              with_reducible rfl
            rotate_left
            · simp only [Act.put, List.setIfInBounds_toArray, List.set_cons_zero, List.set_cons_succ, i64_w, i32_w]
              rfl
            refine take_ (i := 20) (N := some 79) (v := ?_) (a' := ?_) (bm 2097151 23) rfl rfl (by kernel_rfl) (fun _ _ _ h => h) (Or.inl ⟨by rfl, ?_⟩) hHeld ?_ ?_
            rotate_left
            · rintro w' ⟨s0, s1, s2, s3⟩
              go_simp
              with_reducible rfl
            rotate_left
            · simp only [Act.put, List.setIfInBounds_toArray, List.set_cons_zero, List.set_cons_succ, i64_w, i32_w]
              rfl
            refine last_ (i := 21) (N := some 80) (bm 4194303 23) rfl rfl (by kernel_rfl) (by decide) (fun K hK => ?_)
            refine goes_ Try.func25 (by kernel_rfl) rfl #[.slice D2 (rd_T70 o ((o.length : Int) - 1)).f2.length k2, .slice B2 t.length m2] (by rfl) rfl rfl (by simp only [List.map_toArray, List.map_cons, List.map_nil]; rfl) ?_
            with_reducible refine (chanceryref1_SameAttrs.calls k D2 k2 (rd_T70 o ((o.length : Int) - 1)).f2 B2 m2 t b _ (Kd.C_drew HF2.out) HK2.out (Kd.C_below HC2.out HO.out.drew.bel) HM2.out HB'.out).mono ?_
            rintro e w9 ⟨rfl, hb9⟩
            refine ⟨_, rfl, ?_⟩
            obtain ⟨nd, rfl⟩ := hb9
            have HO9 := Aside0.mk (HO.out.drew.drewN nd)
            refine hK.out _ _ ?_
            clear hK K
            refine norm_ (a' := ?_) ?_ ?_
            rotate_left
            · show Act.put _ (some 80) _ = _
              simp only [Act.put, List.setIfInBounds_toArray, List.set_cons_zero, List.set_cons_succ, i64_w, i32_w]
              rfl
            refine pure_ (i := 22) (N := some 81) (v := ?_) (a' := ?_) (bm 8388607 23) rfl rfl (by kernel_rfl) (fun _ _ _ h => h) (Or.inl ⟨by rfl, ?_⟩) ?_ ?_
            rotate_left
            · intro w'
              go_simp
              with_reducible rfl
            rotate_left
            · simp only [Act.put, List.setIfInBounds_toArray, List.set_cons_zero, List.set_cons_succ, i64_w, i32_w]
              rfl
            refine done_ (by kernel_rfl) ?_
            go_wp2
            go_meet
            case rel => exact ⟨by cases b <;> rfl, HO9⟩
          · rw [if_neg hkp] at hb
            obtain rfl := Option.some.inj hb
            have c4 : ((rd_T70 o ((o.length : Int) - 1)).f0 == 0) = false := beq_eq_false_iff_ne.mpr hkp
            clear hb hm2 hF2 hm3 hF3 hM hcc hcl gb hkp gl2 hblk hfr hix
            refine start_ (n := 23) (S := fun w' => w'.cell? ⟨go, (o.length - 1) * 4, none⟩ = some (.int .i64 (rd_T70 o ((o.length : Int) - 1)).f0)) (ds := []) #[false, false, false, false, false, false, false, false, false, false, false, false, false, false, false, false, false, false, false, false, false, false, false] (by kernel_rfl) rfl rfl (hy0) (fun hHeld => ?_)
            refine pure_ (i := 0) (N := some 59) (v := ?_) (a' := ?_) (bm 1 23) rfl rfl (by kernel_rfl) (fun _ _ _ h => h) (Or.inl ⟨by rfl, ?_⟩) ?_ ?_
            rotate_left
            · intro w'
              go_simp
              with_reducible rfl
            rotate_left
            · simp only [Act.put, List.setIfInBounds_toArray, List.set_cons_zero, List.set_cons_succ, i64_w, i32_w]
              rfl
            refine pure_ (i := 1) (N := some 60) (v := ?_) (a' := ?_) (bm 3 23) rfl rfl (by kernel_rfl) (fun _ _ _ h => h) (Or.inl ⟨by rfl, ?_⟩) ?_ ?_
            rotate_left
            · intro w'
              go_simp
              with_reducible rfl
            rotate_left
            · simp only [Act.put, List.setIfInBounds_toArray, List.set_cons_zero, List.set_cons_succ, i64_w, i32_w]
              rfl
            refine pure_ (i := 2) (N := some 61) (v := ?_) (a' := ?_) (bm 7 23) rfl rfl (by kernel_rfl) (fun _ _ _ h => h) (Or.inl ⟨by rfl, ?_⟩) ?_ ?_
            rotate_left
            · intro w'
              go_simp
              with_reducible rfl
            rotate_left
            · simp only [Act.put, List.setIfInBounds_toArray, List.set_cons_zero, List.set_cons_succ, i64_w, i32_w]
              rfl
            refine pure_ (i := 3) (N := some 62) (v := ?_) (a' := ?_) (bm 15 23) rfl rfl (by kernel_rfl) (fun _ _ _ h => h) (Or.inl ⟨by rfl, ?_⟩) ?_ ?_
            rotate_left
            · intro w'
              go_simp
              with_reducible rfl
            rotate_left
            · simp only [Act.put, List.setIfInBounds_toArray, List.set_cons_zero, List.set_cons_succ, i64_w, i32_w]
              rfl
            refine pure_ (i := 4) (N := some 63) (v := ?_) (a' := ?_) (bm 31 23) rfl rfl (by kernel_rfl) (fun _ _ _ h => h) (Or.inl ⟨by rfl, ?_⟩) ?_ ?_
            rotate_left
            · intro w'
              go_simp
              with_reducible rfl
            rotate_left
            · simp only [Act.put, List.setIfInBounds_toArray, List.set_cons_zero, List.set_cons_succ, i64_w, i32_w]
              rfl
            refine pure_ (i := 5) (N := some 64) (v := ?_) (a' := ?_) (bm 63 23) rfl rfl (by kernel_rfl) (fun _ _ _ h => h) (Or.inl ⟨by rfl, ?_⟩) ?_ ?_
            rotate_left
            · intro w'
              go_simp
              with_reducible rfl
            rotate_left
            · simp only [Act.put, List.setIfInBounds_toArray, List.set_cons_zero, List.set_cons_succ, i64_w, i32_w]
              rfl
            refine pure_ (i := 6) (N := some 65) (v := ?_) (a' := ?_) (bm 127 23) rfl rfl (by kernel_rfl) (fun _ _ _ h => h) (Or.inl ⟨by rfl, ?_⟩) ?_ ?_
            rotate_left
            · intro w'
              go_simp
              with_reducible rfl
            rotate_left
            · simp only [Act.put, List.setIfInBounds_toArray, List.set_cons_zero, List.set_cons_succ, i64_w, i32_w]
              rfl
            refine take_ (i := 7) (N := some 66) (v := ?_) (a' := ?_) (bm 255 23) rfl rfl (by kernel_rfl) (fun _ _ _ h => h) (Or.inl ⟨by rfl, ?_⟩) hHeld ?_ ?_
            rotate_left
            · intro w' s0
              go_simp
              with_reducible rfl
            rotate_left
            · simp only [Act.put, List.setIfInBounds_toArray, List.set_cons_zero, List.set_cons_succ, i64_w, i32_w]
              rfl
            refine pure_ (i := 8) (N := some 67) (v := ?_) (a' := ?_) (bm 511 23) rfl rfl (by kernel_rfl) (fun _ _ _ h => h) (Or.inl ⟨by rfl, ?_⟩) ?_ ?_
            rotate_left
            · intro w'
              go_simp
              with_reducible rfl
            rotate_left
            · simp only [Act.put, List.setIfInBounds_toArray, List.set_cons_zero, List.set_cons_succ, i64_w, i32_w]
              rfl
            refine pure_ (i := 9) (N := some 68) (v := ?_) (a' := ?_) (bm 1023 23) rfl rfl (by kernel_rfl) (fun _ _ _ h => h) (Or.inl ⟨by rfl, ?_⟩) ?_ ?_
            rotate_left
            · intro w'
              go_simp
              with_reducible rfl
            rotate_left
            · simp only [Act.put, List.setIfInBounds_toArray, List.set_cons_zero, List.set_cons_succ, i64_w, i32_w]
              rfl
            refine pure_ (i := 10) (N := some 69) (v := ?_) (a' := ?_) (bm 2047 23) rfl rfl (by kernel_rfl) (fun _ _ _ h => h) (Or.inl ⟨by rfl, ?_⟩) ?_ ?_
            rotate_left
            · intro w'
              go_simp
              with_reducible rfl
            rotate_left
            · simp only [Act.put, List.setIfInBounds_toArray, List.set_cons_zero, List.set_cons_succ, i64_w, i32_w]
              rfl
            refine pure_ (i := 11) (N := some 70) (v := undef) (a' := ?_) (bm 4095 23) rfl rfl (by kernel_rfl) (fun _ _ _ h => h) (Or.inr ⟨by rfl, rfl⟩) ?_ ?_
            rotate_left
            · simp only [Act.put, List.setIfInBounds_toArray, List.set_cons_zero, List.set_cons_succ, i64_w, i32_w]
              rfl
            refine pure_ (i := 12) (N := some 71) (v := undef) (a' := ?_) (bm 8191 23) rfl rfl (by kernel_rfl) (fun _ _ _ h => h) (Or.inr ⟨by rfl, rfl⟩) ?_ ?_
            rotate_left
            · simp only [Act.put, List.setIfInBounds_toArray, List.set_cons_zero, List.set_cons_succ, i64_w, i32_w]
              rfl
            refine pure_ (i := 13) (N := some 72) (v := undef) (a' := ?_) (bm 16383 23) rfl rfl (by kernel_rfl) (fun _ _ _ h => h) (Or.inr ⟨by rfl, rfl⟩) ?_ ?_
            rotate_left
            · simp only [Act.put, List.setIfInBounds_toArray, List.set_cons_zero, List.set_cons_succ, i64_w, i32_w]
              rfl
            refine pure_ (i := 14) (N := some 73) (v := undef) (a' := ?_) (bm 32767 23) rfl rfl (by kernel_rfl) (fun _ _ _ h => h) (Or.inr ⟨by rfl, rfl⟩) ?_ ?_
            rotate_left
            · simp only [Act.put, List.setIfInBounds_toArray, List.set_cons_zero, List.set_cons_succ, i64_w, i32_w]
              rfl
            refine pure_ (i := 15) (N := some 74) (v := undef) (a' := ?_) (bm 65535 23) rfl rfl (by kernel_rfl) (fun _ _ _ h => h) (Or.inr ⟨by rfl, rfl⟩) ?_ ?_
            rotate_left
            · simp only [Act.put, List.setIfInBounds_toArray, List.set_cons_zero, List.set_cons_succ, i64_w, i32_w]
              rfl
            refine pure_ (i := 16) (N := some 75) (v := undef) (a' := ?_) (bm 131071 23) rfl rfl (by kernel_rfl) (fun _ _ _ h => h) (Or.inr ⟨by rfl, rfl⟩) ?_ ?_
            rotate_left
            · simp only [Act.put, List.setIfInBounds_toArray, List.set_cons_zero, List.set_cons_succ, i64_w, i32_w]
              rfl
            refine pure_ (i := 17) (N := some 76) (v := undef) (a' := ?_) (bm 262143 23) rfl rfl (by kernel_rfl) (fun _ _ _ h => h) (Or.inr ⟨by rfl, rfl⟩) ?_ ?_
            rotate_left
            · simp only [Act.put, List.setIfInBounds_toArray, List.set_cons_zero, List.set_cons_succ, i64_w, i32_w]
              rfl
            refine pure_ (i := 18) (N := some 77) (v := undef) (a' := ?_) (bm 524287 23) rfl rfl (by kernel_rfl) (fun _ _ _ h => h) (Or.inr ⟨by rfl, rfl⟩) ?_ ?_
            rotate_left
            · simp only [Act.put, List.setIfInBounds_toArray, List.set_cons_zero, List.set_cons_succ, i64_w, i32_w]
              rfl
            refine pure_ (i := 19) (N := some 78) (v := undef) (a' := ?_) (bm 1048575 23) rfl rfl (by kernel_rfl) (fun _ _ _ h => h) (Or.inr ⟨by rfl, rfl⟩) ?_ ?_
            rotate_left
            · simp only [Act.put, List.setIfInBounds_toArray, List.set_cons_zero, List.set_cons_succ, i64_w, i32_w]
              rfl
            refine pure_ (i := 20) (N := some 79) (v := undef) (a' := ?_) (bm 2097151 23) rfl rfl (by kernel_rfl) (fun _ _ _ h => h) (Or.inr ⟨by rfl, rfl⟩) ?_ ?_
            rotate_left
            · simp only [Act.put, List.setIfInBounds_toArray, List.set_cons_zero, List.set_cons_succ, i64_w, i32_w]
              rfl
            refine pure_ (i := 21) (N := some 80) (v := undef) (a' := ?_) (bm 4194303 23) rfl rfl (by kernel_rfl) (fun _ _ _ h => h) (Or.inr ⟨by rfl, rfl⟩) ?_ ?_
            rotate_left
            · simp only [Act.put, List.setIfInBounds_toArray, List.set_cons_zero, List.set_cons_succ, i64_w, i32_w]
              rfl
            refine pure_ (i := 22) (N := some 81) (v := ?_) (a' := ?_) (bm 8388607 23) rfl rfl (by kernel_rfl) (fun _ _ _ h => h) (Or.inl ⟨by rfl, ?_⟩) ?_ ?_
            rotate_left
            · intro w'
              go_simp
              with_reducible rfl
            rotate_left
            · simp only [Act.put, List.setIfInBounds_toArray, List.set_cons_zero, List.set_cons_succ, i64_w, i32_w]
              rfl
            refine done_ (by kernel_rfl) ?_
            go_wp2
            go_meet
            case rel => exact ⟨rfl, ⟨HO.out.drew⟩⟩
        · have hnil : o = [] := List.eq_nil_of_length_eq_zero (by omega)
          subst hnil
          rw [dofB, if_neg (by decide)] at hb
          obtain rfl := Option.some.inj hb
          refine start_ (n := 23) (S := fun w' => True) (ds := []) #[false, false, false, false, false, false, false, false, false, false, false, false, false, false, false, false, false, false, false, false, false, false, false] (by kernel_rfl) rfl rfl trivial (fun hHeld => ?_)
          refine pure_ (i := 0) (N := some 59) (v := ?_) (a' := ?_) (bm 1 23) rfl rfl (by kernel_rfl) (fun _ _ _ h => h) (Or.inl ⟨by rfl, ?_⟩) ?_ ?_
          rotate_left
          · intro w'
            go_simp
            with_reducible rfl
          rotate_left
          · simp only [Act.put, List.setIfInBounds_toArray, List.set_cons_zero, List.set_cons_succ, i64_w, i32_w]
            rfl
          refine pure_ (i := 1) (N := some 60) (v := ?_) (a' := ?_) (bm 3 23) rfl rfl (by kernel_rfl) (fun _ _ _ h => h) (Or.inl ⟨by rfl, ?_⟩) ?_ ?_
          rotate_left
          · intro w'
            go_simp
            with_reducible rfl
          rotate_left
          · simp only [Act.put, List.setIfInBounds_toArray, List.set_cons_zero, List.set_cons_succ, i64_w, i32_w]
            rfl
          refine pure_ (i := 2) (N := some 61) (v := ?_) (a' := ?_) (bm 7 23) rfl rfl (by kernel_rfl) (fun _ _ _ h => h) (Or.inl ⟨by rfl, ?_⟩) ?_ ?_
          rotate_left
          · intro w'
            go_simp
            with_reducible rfl
          rotate_left
          · simp only [Act.put, List.setIfInBounds_toArray, List.set_cons_zero, List.set_cons_succ, i64_w, i32_w]
            rfl
          refine pure_ (i := 3) (N := some 62) (v := undef) (a' := ?_) (bm 15 23) rfl rfl (by kernel_rfl) (fun _ _ _ h => h) (Or.inr ⟨by rfl, rfl⟩) ?_ ?_
          rotate_left
          · simp only [Act.put, List.setIfInBounds_toArray, List.set_cons_zero, List.set_cons_succ, i64_w, i32_w]
            rfl
          refine pure_ (i := 4) (N := some 63) (v := undef) (a' := ?_) (bm 31 23) rfl rfl (by kernel_rfl) (fun _ _ _ h => h) (Or.inr ⟨by rfl, rfl⟩) ?_ ?_
          rotate_left
          · simp only [Act.put, List.setIfInBounds_toArray, List.set_cons_zero, List.set_cons_succ, i64_w, i32_w]
            rfl
          refine pure_ (i := 5) (N := some 64) (v := undef) (a' := ?_) (bm 63 23) rfl rfl (by kernel_rfl) (fun _ _ _ h => h) (Or.inr ⟨by rfl, rfl⟩) ?_ ?_
          rotate_left
          · simp only [Act.put, List.setIfInBounds_toArray, List.set_cons_zero, List.set_cons_succ, i64_w, i32_w]
            rfl
          refine pure_ (i := 6) (N := some 65) (v := undef) (a' := ?_) (bm 127 23) rfl rfl (by kernel_rfl) (fun _ _ _ h => h) (Or.inr ⟨by rfl, rfl⟩) ?_ ?_
          rotate_left
          · simp only [Act.put, List.setIfInBounds_toArray, List.set_cons_zero, List.set_cons_succ, i64_w, i32_w]
            rfl
          refine pure_ (i := 7) (N := some 66) (v := undef) (a' := ?_) (bm 255 23) rfl rfl (by kernel_rfl) (fun _ _ _ h => h) (Or.inr ⟨by rfl, rfl⟩) ?_ ?_
          rotate_left
          · simp only [Act.put, List.setIfInBounds_toArray, List.set_cons_zero, List.set_cons_succ, i64_w, i32_w]
            rfl
          refine pure_ (i := 8) (N := some 67) (v := undef) (a' := ?_) (bm 511 23) rfl rfl (by kernel_rfl) (fun _ _ _ h => h) (Or.inr ⟨by rfl, rfl⟩) ?_ ?_
          rotate_left
          · simp only [Act.put, List.setIfInBounds_toArray, List.set_cons_zero, List.set_cons_succ, i64_w, i32_w]
            rfl
          refine pure_ (i := 9) (N := some 68) (v := ?_) (a' := ?_) (bm 1023 23) rfl rfl (by kernel_rfl) (fun _ _ _ h => h) (Or.inl ⟨by rfl, ?_⟩) ?_ ?_
          rotate_left
          · intro w'
            go_simp
            with_reducible rfl
          rotate_left
          · simp only [Act.put, List.setIfInBounds_toArray, List.set_cons_zero, List.set_cons_succ, i64_w, i32_w]
            rfl
          refine pure_ (i := 10) (N := some 69) (v := ?_) (a' := ?_) (bm 2047 23) rfl rfl (by kernel_rfl) (fun _ _ _ h => h) (Or.inl ⟨by rfl, ?_⟩) ?_ ?_
          rotate_left
          · intro w'
            go_simp
            with_reducible rfl
          rotate_left
          · simp only [Act.put, List.setIfInBounds_toArray, List.set_cons_zero, List.set_cons_succ, i64_w, i32_w]
            rfl
          refine pure_ (i := 11) (N := some 70) (v := undef) (a' := ?_) (bm 4095 23) rfl rfl (by kernel_rfl) (fun _ _ _ h => h) (Or.inr ⟨by rfl, rfl⟩) ?_ ?_
          rotate_left
          · simp only [Act.put, List.setIfInBounds_toArray, List.set_cons_zero, List.set_cons_succ, i64_w, i32_w]
            rfl
          refine pure_ (i := 12) (N := some 71) (v := undef) (a' := ?_) (bm 8191 23) rfl rfl (by kernel_rfl) (fun _ _ _ h => h) (Or.inr ⟨by rfl, rfl⟩) ?_ ?_
          rotate_left
          · simp only [Act.put, List.setIfInBounds_toArray, List.set_cons_zero, List.set_cons_succ, i64_w, i32_w]
            rfl
          refine pure_ (i := 13) (N := some 72) (v := undef) (a' := ?_) (bm 16383 23) rfl rfl (by kernel_rfl) (fun _ _ _ h => h) (Or.inr ⟨by rfl, rfl⟩) ?_ ?_
          rotate_left
          · simp only [Act.put, List.setIfInBounds_toArray, List.set_cons_zero, List.set_cons_succ, i64_w, i32_w]
            rfl
          refine pure_ (i := 14) (N := some 73) (v := undef) (a' := ?_) (bm 32767 23) rfl rfl (by kernel_rfl) (fun _ _ _ h => h) (Or.inr ⟨by rfl, rfl⟩) ?_ ?_
          rotate_left
          · simp only [Act.put, List.setIfInBounds_toArray, List.set_cons_zero, List.set_cons_succ, i64_w, i32_w]
            rfl
          refine pure_ (i := 15) (N := some 74) (v := undef) (a' := ?_) (bm 65535 23) rfl rfl (by kernel_rfl) (fun _ _ _ h => h) (Or.inr ⟨by rfl, rfl⟩) ?_ ?_
          rotate_left
          · simp only [Act.put, List.setIfInBounds_toArray, List.set_cons_zero, List.set_cons_succ, i64_w, i32_w]
            rfl
          refine pure_ (i := 16) (N := some 75) (v := undef) (a' := ?_) (bm 131071 23) rfl rfl (by kernel_rfl) (fun _ _ _ h => h) (Or.inr ⟨by rfl, rfl⟩) ?_ ?_
          rotate_left
          · simp only [Act.put, List.setIfInBounds_toArray, List.set_cons_zero, List.set_cons_succ, i64_w, i32_w]
            rfl
          refine pure_ (i := 17) (N := some 76) (v := undef) (a' := ?_) (bm 262143 23) rfl rfl (by kernel_rfl) (fun _ _ _ h => h) (Or.inr ⟨by rfl, rfl⟩) ?_ ?_
          rotate_left
          · simp only [Act.put, List.setIfInBounds_toArray, List.set_cons_zero, List.set_cons_succ, i64_w, i32_w]
            rfl
          refine pure_ (i := 18) (N := some 77) (v := undef) (a' := ?_) (bm 524287 23) rfl rfl (by kernel_rfl) (fun _ _ _ h => h) (Or.inr ⟨by rfl, rfl⟩) ?_ ?_
          rotate_left
          · simp only [Act.put, List.setIfInBounds_toArray, List.set_cons_zero, List.set_cons_succ, i64_w, i32_w]
            rfl
          refine pure_ (i := 19) (N := some 78) (v := undef) (a' := ?_) (bm 1048575 23) rfl rfl (by kernel_rfl) (fun _ _ _ h => h) (Or.inr ⟨by rfl, rfl⟩) ?_ ?_
          rotate_left
          · simp only [Act.put, List.setIfInBounds_toArray, List.set_cons_zero, List.set_cons_succ, i64_w, i32_w]
            rfl
          refine pure_ (i := 20) (N := some 79) (v := undef) (a' := ?_) (bm 2097151 23) rfl rfl (by kernel_rfl) (fun _ _ _ h => h) (Or.inr ⟨by rfl, rfl⟩) ?_ ?_
          rotate_left
          · simp only [Act.put, List.setIfInBounds_toArray, List.set_cons_zero, List.set_cons_succ, i64_w, i32_w]
            rfl
          refine pure_ (i := 21) (N := some 80) (v := undef) (a' := ?_) (bm 4194303 23) rfl rfl (by kernel_rfl) (fun _ _ _ h => h) (Or.inr ⟨by rfl, rfl⟩) ?_ ?_
          rotate_left
          · simp only [Act.put, List.setIfInBounds_toArray, List.set_cons_zero, List.set_cons_succ, i64_w, i32_w]
            rfl
          refine pure_ (i := 22) (N := some 81) (v := ?_) (a' := ?_) (bm 8388607 23) rfl rfl (by kernel_rfl) (fun _ _ _ h => h) (Or.inl ⟨by rfl, ?_⟩) ?_ ?_
          rotate_left
          · intro w'
            go_simp
            with_reducible rfl
          rotate_left
          · simp only [Act.put, List.setIfInBounds_toArray, List.set_cons_zero, List.set_cons_succ, i64_w, i32_w]
            rfl
          refine done_ (by kernel_rfl) ?_
          go_wp2
          go_meet
          case rel => exact ⟨rfl, ⟨HO.out.drew⟩⟩
      case rest =>
      obtain ⟨rfl, HO9⟩ := hcut
      clear HO e1
      cases b with
      | true =>
        have hz : 0 < o.length := by
          have hb := HB.out
          rw [dofB] at hb
          by_cases hz : 0 < o.length
          · exact hz
          · rw [if_neg hz] at hb; cases hb
        have p0 : 0 ≤ (o.length : Int) - 1 := by omega
        have r0 : (o.length : Int) - 1 < (o.length : Int) := by omega
        obtain ⟨go, co, eo, gb, gl2, cells, hblk⟩ := Kd.N_form HO9.out.row hz
        injection eo with ea en ec
        subst ea
        subst ec
        clear en
        obtain ⟨ce, hcl, hM, hcc, hfr⟩ := Kd.N_elem HO9.out.row z70 ((o.length : Int) - 1) p0 r0
        obtain ⟨D2, k2, D3, k3, rfl, hm2, hF2, hm3, hF3⟩ := k70_openF hM
        have hix : ∀ j, (((o.length : Int) - 1).toNat * k70.sz + j) = (o.length - 1) * 4 + j := fun j => by show (((o.length : Int) - 1).toNat * 4 + j) = _; omega
        have hy1 : wc.cell? ⟨go, (o.length - 1) * 4 + 1, none⟩ = some (.int .i64 (rd_T70 o ((o.length : Int) - 1)).f1) := by
          have := hcc 1 _ rfl
          rwa [hix] at this
        have hfy1 : wc.frozen? ⟨go, (o.length - 1) * 4 + 1, none⟩ = false := by
          have := hfr 1
          rwa [hix] at this
        have HSEG := Aside0.mk (Kd.N_seg HO9.out.row ((o.length : Int) - 1) p0 r0 (seg := [.int .i64 (wrap64 ((rd_T70 o ((o.length : Int) - 1)).f1 + 1))]) (j := 1) hcl hcc (by show 2 ≤ 4; omega)
          (x' := (⟨(rd_T70 o ((o.length : Int) - 1)).f0, wrap64 ((rd_T70 o ((o.length : Int) - 1)).f1 + 1), (rd_T70 o ((o.length : Int) - 1)).f2, (rd_T70 o ((o.length : Int) - 1)).f3⟩ : S70)) (k70_mkF _ _ ⟨(rd_T70 o ((o.length : Int) - 1)).f0, wrap64 ((rd_T70 o ((o.length : Int) - 1)).f1 + 1), (rd_T70 o ((o.length : Int) - 1)).f2, (rd_T70 o ((o.length : Int) - 1)).f3⟩ hm2 hF2 hm3 hF3) (fun _ hk => hk))
        have HGB := Aside0.mk gb
        have HNE := Aside0.mk (show ga ≠ go from fun e => Kd.N_ne HO9.out.row HO9.out.bk (by decide) (by rw [e]; rfl))
        clear hcl hM hcc hfr gb gl2 hblk hm2 hF2 hm3 hF3 hix HB
        go_wp2
        go_roundg gl
        case measure => omega
        case rel =>
          refine ⟨i + 1, keepO o 1 t true, [], 0, rfl, by simp [wk], HIG, ⟨DfO.clear ⟨blk_far (p := ⟨go, (o.length - 1) * 4 + 1, none⟩) HO9.out.bk HNE.out _, ?_, below_set HO9.out.bel HGB.out⟩⟩, HL⟩
          have h2 := HSEG.out.1
          simp only [World.setCells, show k70.sz = 4 from rfl, show ((o.length : Int) - 1).toNat = o.length - 1 by omega] at h2
          have h3 : (keepO o 1 t true).length = o.length := by simp [keepO]
          exact h2
      | false =>
        have e2' : wc.cell? ⟨ga, 2, none⟩ = some (.slice (some ad2) l2.length c2) := (blk_cell HO9.out.bk 2).trans rfl
        have hx2 := (HO9.out.bel.cell (World.block_lt_of_cell? w _ HX2.out)).trans HX2.out
        simp only [Int.toNat_natCast] at hx2
        have HFT := Aside0.mk (Kd.F_step (Kd.C_F k38_heap HC2.out) (fun k hk _ => HO9.out.bel.block k hk))
        clear HB
        go_wp2_with (at_builtin; refine Kd.N_append k70 (w0 := w) w.heap.size rfl (.tmp 90) (.tmp 97) 64 70 (.agg #[.int .i64 0, .int .i64 0, .slice none 0 0, .slice none 0 0]) 64 rfl Try.underlying64 info70 rfl (by decide) (by decide) _ o ⟨0, 1, t, []⟩ _ (fun _ => True) (fun k => k < w.heap.size) rfl (by simp [Act.eval]) (k70_mkF _ _ ⟨0, 1, t, []⟩ HM2.out HFT.out (Nat.le_refl 0) (Kd.F_nil _ _ _)) (fun k hk => ⟨trivial, fun e => by have := Kd.N_base HO9.out.row k e.symm; omega⟩) (fun _ _ => trivial) HO9.out.row HO9.out.bel HO9.out.bel.size (by have := HLO.out; omega) ?_; intro v1 w4 hR hB hg hat; have HW := Aside0.mk (HO9.out.app hR hB hg); clear hR hB hg hat)
        go_roundg gl
        case measure => omega
        case rel => exact ⟨i + 1, keepO o 1 t false, [], 0, rfl, by simp [wk], HIG, ⟨HW.out.clear⟩, HL⟩
def nold : List Un → Nat
  | [] => 0
  | .add _ :: u => nold u
  | .keep _ :: u => nold u + 1
  | .cut :: u => nold u + 1
def nnew : List Un → Nat
  | [] => 0
  | .cut :: u => nnew u
  | .keep _ :: u => nnew u + 1
  | .add _ :: u => nnew u + 1
theorem nold_app : ∀ a b : List Un, nold (a ++ b) = nold a + nold b
  | [], b => by simp [nold]
  | .add x :: a, b => by simp only [List.cons_append, nold, nold_app a b]
  | .keep t :: a, b => by simp only [List.cons_append, nold, nold_app a b]; omega
  | .cut :: a, b => by simp only [List.cons_append, nold, nold_app a b]; omega
theorem nnew_app : ∀ a b : List Un, nnew (a ++ b) = nnew a + nnew b
  | [], b => by simp [nnew]
  | .add x :: a, b => by simp only [List.cons_append, nnew, nnew_app a b]; omega
  | .keep t :: a, b => by simp only [List.cons_append, nnew, nnew_app a b]; omega
  | .cut :: a, b => by simp only [List.cons_append, nnew, nnew_app a b]
theorem nold_keeps (t : List S38) : ∀ n, nold (List.replicate n (.keep t)) = n
  | 0 => rfl
  | n + 1 => by rw [List.replicate_succ, nold, nold_keeps t n]
theorem nnew_keeps (t : List S38) : ∀ n, nnew (List.replicate n (.keep t)) = n
  | 0 => rfl
  | n + 1 => by rw [List.replicate_succ, nnew, nnew_keeps t n]
theorem nold_cuts : ∀ n, nold (List.replicate n .cut) = n
  | 0 => rfl
  | n + 1 => by rw [List.replicate_succ, nold, nold_cuts n]
theorem nnew_cuts : ∀ n, nnew (List.replicate n .cut) = 0
  | 0 => rfl
  | n + 1 => by rw [List.replicate_succ, nnew, nnew_cuts n]
theorem nold_adds : ∀ l : List S84, nold (l.map .add) = 0
  | [] => rfl
  | x :: l => by rw [List.map_cons, nold, nold_adds l]
theorem nnew_adds : ∀ l : List S84, nnew (l.map .add) = l.length
  | [] => rfl
  | x :: l => by rw [List.map_cons, nnew, nnew_adds l, List.length_cons]
theorem nold_le : ∀ u : List Un, nold u ≤ u.length
  | [] => Nat.le_refl _
  | .add x :: u => by have := nold_le u; simp only [nold, List.length_cons]; omega
  | .keep t :: u => by have := nold_le u; simp only [nold, List.length_cons]; omega
  | .cut :: u => by have := nold_le u; simp only [nold, List.length_cons]; omega
theorem nnew_le : ∀ u : List Un, nnew u ≤ u.length
  | [] => Nat.le_refl _
  | .add x :: u => by have := nnew_le u; simp only [nnew, List.length_cons]; omega
  | .keep t :: u => by have := nnew_le u; simp only [nnew, List.length_cons]; omega
  | .cut :: u => by have := nnew_le u; simp only [nnew, List.length_cons]; omega
theorem run_cuts' : ∀ (n : Nat) (f : List S84), run f (List.replicate n .cut) = ([], f.drop n)
  | 0, f => by simp [run]
  | n + 1, [] => by rw [List.replicate_succ, run, run_cuts' n []]; simp
  | n + 1, x :: f => by rw [List.replicate_succ, run, run_cuts' n f]; simp
structure E (a b : List Un) : Prop where
  run : ∀ f, run f a = run f b
  old : nold a = nold b
  new : nnew a = nnew b
  len : a.length = b.length
theorem E.refl (a : List Un) : E a a := ⟨fun _ => rfl, rfl, rfl, rfl⟩
theorem E.symm {a b : List Un} (h : E a b) : E b a := ⟨fun f => (h.run f).symm, h.old.symm, h.new.symm, h.len.symm⟩
theorem E.trans {a b c : List Un} (h : E a b) (k : E b c) : E a c := ⟨fun f => (h.run f).trans (k.run f), h.old.trans k.old, h.new.trans k.new, h.len.trans k.len⟩
theorem E.app {a b c d : List Un} (h : E a b) (k : E c d) : E (a ++ c) (b ++ d) := ⟨fun f => by rw [run_app, run_app, h.run, k.run], by rw [nold_app, nold_app, h.old, k.old], by rw [nnew_app, nnew_app, h.new, k.new], by rw [List.length_append, List.length_append, h.len, k.len]⟩
theorem E.swap (n : Nat) (l : List S84) : E (List.replicate n .cut ++ l.map .add) (l.map .add ++ List.replicate n .cut) :=
  ⟨fun f => by rw [run_app, run_app, run_cuts', run_adds, run_adds, run_cuts']; simp, by rw [nold_app, nold_app]; omega, by rw [nnew_app, nnew_app]; omega, by rw [List.length_append, List.length_append]; omega⟩
theorem us_len {s : S70} (h : StepOK s) : 1 ≤ (us s).length ∧ s.f1.toNat ≤ (us s).length ∧ s.f3.length ≤ (us s).length := by
  rcases h with h | h | h
  · rw [us_keep h.1, List.length_replicate, h.2.2.2.1]; simp; omega
  · rw [us_add h.1, List.length_map]
    have := List.length_pos_iff.2 h.2.2.2.1
    omega
  · rw [us_cut h.1, List.length_replicate, h.2.2.2.1]; simp; omega
theorem oldS_us {s : S70} (h : StepOK s) : oldS s = (nold (us s) : Int) := by
  rcases h with h | h | h
  · rw [us_keep h.1, nold_keeps]; unfold oldS; rw [if_neg (by omega)]; omega
  · rw [us_add h.1, nold_adds]; unfold oldS; rw [if_pos h.1]; rfl
  · rw [us_cut h.1, nold_cuts]; unfold oldS; rw [if_neg (by omega)]; omega
theorem newS_us {s : S70} (h : StepOK s) : newS s = (nnew (us s) : Int) := by
  rcases h with h | h | h
  · rw [us_keep h.1, nnew_keeps]; unfold newS; rw [if_neg (by omega), if_neg (by omega)]; omega
  · rw [us_add h.1, nnew_adds]; unfold newS; rw [if_neg (by omega), if_pos h.1]
  · rw [us_cut h.1, nnew_cuts]; unfold newS; rw [if_pos h.1]; rfl
theorem old_units : ∀ {d : List S70}, (∀ s ∈ d, StepOK s) → old d = (nold (units d) : Int)
  | [], _ => rfl
  | s :: d, h => by
    rw [old, units_cons, nold_app, oldS_us (h s List.mem_cons_self), old_units (fun x hx => h x (List.mem_cons_of_mem _ hx))]
    omega
theorem new_units : ∀ {d : List S70}, (∀ s ∈ d, StepOK s) → new d = (nnew (units d) : Int)
  | [], _ => rfl
  | s :: d, h => by
    rw [new, units_cons, nnew_app, newS_us (h s List.mem_cons_self), new_units (fun x hx => h x (List.mem_cons_of_mem _ hx))]
    omega
theorem units_len : ∀ {d : List S70}, (∀ s ∈ d, StepOK s) → d.length ≤ (units d).length
  | [], _ => Nat.le_refl _
  | s :: d, h => by
    have h1 := us_len (h s List.mem_cons_self)
    have h2 := units_len (d := d) (fun x hx => h x (List.mem_cons_of_mem _ hx))
    rw [units_cons, List.length_append, List.length_cons]
    omega
theorem units_mem : ∀ {d : List S70}, (∀ s ∈ d, StepOK s) → ∀ s ∈ d, (us s).length ≤ (units d).length
  | [], _, s, hs => by cases hs
  | x :: d, h, s, hs => by
    rw [units_cons, List.length_append]
    rcases List.mem_cons.1 hs with rfl | hs
    · omega
    · have := units_mem (d := d) (fun x hx => h x (List.mem_cons_of_mem _ hx)) s hs
      omega
theorem ord_snoc (x : S70) : ∀ (l : List S70) (p : Option S70), ordOK p (l ++ [x]) ↔ ordOK p l ∧ ∀ q, (l.getLast?.or p) = some q → Adj q x
  | [], p => by simp [ordOK]
  | [y], p => by simp [ordOK]
  | y :: z :: l, p => by
    have : (z :: l).getLast?.or (some y) = (y :: z :: l).getLast?.or p := by simp [List.getLast?_cons_cons, List.getLast?_cons]
    show ((∀ q, p = some q → Adj q y) ∧ ordOK (some y) ((z :: l) ++ [x])) ↔ ((∀ q, p = some q → Adj q y) ∧ ordOK (some y) (z :: l)) ∧ _
    rw [ord_snoc x (z :: l) (some y), this, and_assoc]
def wu (s : WD) : List Un := units s.out ++ s.add.map .add ++ List.replicate s.cut.toNat .cut
def SAt (A : Nat) (s : S70) : Prop := s.f2.length ≤ A ∧ ∀ y ∈ s.f3, y.f2.length ≤ A
structure WF (A : Nat) (s : WD) : Prop where
  ok : ∀ x ∈ s.out, StepOK x
  ord : ordOK none s.out
  last : ∀ x, s.out.getLast? = some x → x.f0 = 0
  add : POK s.add
  cut : 0 ≤ s.cut
  att : ∀ x ∈ s.out, SAt A x
  atta : ∀ y ∈ s.add, y.f2.length ≤ A
theorem WF.nil (A : Nat) : WF A ⟨[], [], 0⟩ := ⟨(fun x hx => by cases hx), trivial, (fun x hx => by cases hx), (fun j h0 h1 => by simp at h1; omega), Int.le_refl _, (fun x hx => by cases hx), (fun x hx => by cases hx)⟩
structure FO (A : Nat) (o : List S70) : Prop where
  ok : ∀ x ∈ o, StepOK x
  ord : ordOK none o
  att : ∀ x ∈ o, SAt A x
theorem FO.dok {A : Nat} {o : List S70} (h : FO A o) (hl : (units o).length ≤ 2147483647) : DOK o := by
  have h1 := nold_le (units o)
  have h2 := nnew_le (units o)
  exact ⟨h.ok, h.ord, by rw [old_units h.ok]; omega, by rw [new_units h.ok]; omega⟩
theorem FO.db {A n : Nat} {o : List S70} (h : FO A o) (hl : (units o).length ≤ n) (ha : A ≤ n) : DB n o := by
  refine ⟨Nat.le_trans (units_len h.ok) hl, fun s hs => ⟨Nat.le_trans (h.att s hs).1 ha, ?_, fun y hy => Nat.le_trans ((h.att s hs).2 y hy) ha⟩⟩
  have h1 := units_mem h.ok s hs
  have h2 := us_len (h.ok s hs)
  omega
theorem wu_len (s : WD) : (wu s).length = (units s.out).length + s.add.length + s.cut.toNat := by simp [wu]; omega
theorem flush_spec {A : Nat} {s : WD} (h : WF A s) (hl : (wu s).length ≤ 2147483647) : FO A (flushD s.out s.add s.cut) ∧ units (flushD s.out s.add s.cut) = wu s ∧ (s.add = [] → s.cut = 0 → flushD s.out s.add s.cut = s.out) ∧
    (flushD s.out s.add s.cut).length ≤ s.out.length + 2 := by
  rw [wu_len] at hl
  have hcut := h.cut
  have h1 : FO A (addD s.out s.add) ∧ units (addD s.out s.add) = units s.out ++ s.add.map .add ∧ (∀ q, (addD s.out s.add).getLast? = some q → q.f0 ≠ 2) := by
    by_cases ha : 0 < s.add.length
    · have e : addD s.out s.add = s.out ++ [⟨1, 0, [], s.add⟩] := if_pos ha
      have hne : s.add ≠ [] := fun h => by rw [h] at ha; cases ha
      rw [e]
      refine ⟨⟨fun x hx => ?_, (ord_snoc _ _ _).2 ⟨h.ord, fun q hq => ?_⟩, fun x hx => ?_⟩, ?_, fun q hq => ?_⟩
      · rcases List.mem_append.1 hx with hx | hx
        · exact h.ok x hx
        · rw [List.mem_singleton.1 hx]; exact .inr (.inl ⟨rfl, rfl, rfl, hne, h.add⟩)
      · rw [Option.or_none] at hq
        have := h.last q hq
        exact ⟨fun h => by have := h.1; simp only at this; omega, fun h => by omega⟩
      · rcases List.mem_append.1 hx with hx | hx
        · exact h.att x hx
        · rw [List.mem_singleton.1 hx]; exact ⟨Nat.zero_le _, h.atta⟩
      · rw [units_app, units_cons, units_nil, List.append_nil]; rfl
      · rw [List.getLast?_append] at hq
        simp at hq
        rw [← hq]
        show (1 : Int) ≠ 2
        decide
    · have e : addD s.out s.add = s.out := if_neg ha
      have hne : s.add = [] := List.eq_nil_of_length_eq_zero (by omega)
      rw [e]
      exact ⟨⟨h.ok, h.ord, h.att⟩, by rw [hne]; simp, fun q hq => by have := h.last q hq; omega⟩
  have hlen1 : (addD s.out s.add).length ≤ s.out.length + 1 := by unfold addD; split <;> simp
  refine ⟨?_, ?_, ?_, ?_⟩
  · unfold flushD cutD
    split
    · refine ⟨fun x hx => ?_, (ord_snoc _ _ _).2 ⟨h1.1.ord, fun q hq => ?_⟩, fun x hx => ?_⟩
      · rcases List.mem_append.1 hx with hx | hx
        · exact h1.1.ok x hx
        · rw [List.mem_singleton.1 hx]; exact .inr (.inr ⟨rfl, by show 1 ≤ s.cut; omega, by show s.cut ≤ 2147483647; omega, rfl, rfl⟩)
      · rw [Option.or_none] at hq
        have := h1.2.2 q hq
        exact ⟨fun h => by have := h.1; simp only at this; omega, fun h => by have := h.2; simp only at this; omega⟩
      · rcases List.mem_append.1 hx with hx | hx
        · exact h1.1.att x hx
        · rw [List.mem_singleton.1 hx]; exact ⟨Nat.zero_le _, fun y hy => by cases hy⟩
    · exact h1.1
  · unfold flushD cutD wu
    split
    · rw [units_app, h1.2.1, units_cons, units_nil, List.append_nil]; rfl
    · rw [h1.2.1, show s.cut.toNat = 0 by omega]; simp
  · intro ha hc
    unfold flushD cutD addD
    rw [ha, hc]
    rfl
  · unfold flushD cutD
    split
    · rw [List.length_append, List.length_singleton]; omega
    · omega
theorem keepO_false (o : List S70) (n : Int) (t : List S38) : keepO o n t false = o ++ [⟨0, n, t, []⟩] := rfl
theorem last_split {o : List S70} (h : 0 < o.length) : ∃ o' x, o = o' ++ [x] ∧ rd_T70 o ((o.length : Int) - 1) = x := by
  refine ⟨o.dropLast, o.getLast (fun h' => by rw [h'] at h; cases h), (List.dropLast_concat_getLast _).symm, ?_⟩
  rw [show (o.length : Int) - 1 = ((o.length - 1 : Nat) : Int) by omega]
  simp only [rd_T70, Int.toNat_natCast, List.getD_eq_getElem?_getD, List.getElem?_eq_getElem (show o.length - 1 < o.length by omega), Option.getD_some, List.getLast_eq_getElem]
def Joins (o : List S70) (t : List S38) : Prop := ∃ o' x, o = o' ++ [x] ∧ rd_T70 o ((o.length : Int) - 1) = x ∧ x.f0 = 0 ∧ x.f2 = t
theorem keep_core {A : Nat} {s : WD} (n : Int) (t : List S38) (h : WF A s) (hv : VA true t) (ht : t.length ≤ A) (hA : A ≤ 1073741824) (h0 : 1 ≤ n) (hl : ((wu s).length : Int) + n ≤ 1073741824)
    (b : Bool) (hbi : b = true ↔ Joins (flushD s.out s.add s.cut) t) : WF A ⟨keepO (flushD s.out s.add s.cut) n t b, [], 0⟩ ∧ wu ⟨keepO (flushD s.out s.add s.cut) n t b, [], 0⟩ = wu s ++ List.replicate n.toNat (.keep t) := by
  obtain ⟨f1, f2, f3, f4⟩ := flush_spec h (by omega)
  have hol := units_len h.ok
  have hwl := wu_len s
  obtain ⟨o, ho⟩ : ∃ o, o = flushD s.out s.add s.cut := ⟨_, rfl⟩
  rw [← ho] at f1 f2 f3 f4 hbi ⊢
  have pnil : POK [] := fun j h0 h1 => by simp at h1; omega
  cases b with
  | true =>
    obtain ⟨o', x, e, ex, hk, hx⟩ := hbi.1 rfl
    have hxok := f1.ok x (by rw [e]; simp)
    have hxat := f1.att x (by rw [e]; simp)
    have hx' : 1 ≤ x.f1 ∧ x.f3 = [] := by rcases hxok with h | h | h <;> first | exact ⟨h.2.1, h.2.2.2.1⟩ | omega
    have hxl : x.f1.toNat ≤ (wu s).length := by
      have h1 := units_mem f1.ok x (by rw [e]; simp)
      have h2 := us_len hxok
      rw [f2] at h1
      omega
    have e2 : keepO o n t true = o' ++ [⟨0, x.f1 + n, t, []⟩] := by
      rw [keepO, ex, e, w64 (by omega) (by omega), hk, hx, hx'.2]
      rw [List.length_append, List.length_singleton, show o'.length + 1 - 1 = o'.length by omega, List.set_append_right _ _ (Nat.le_refl _)]
      simp
    have hord := f1.ord
    rw [e, ord_snoc] at hord
    have hst : StepOK ⟨0, x.f1 + n, t, []⟩ := .inl ⟨rfl, by show 1 ≤ x.f1 + n; omega, by show x.f1 + n ≤ 2147483647; omega, rfl, hv⟩
    refine ⟨⟨fun y hy => ?_, ?_, fun y hy => ?_, pnil, Int.le_refl _, fun y hy => ?_, fun y hy => by cases hy⟩, ?_⟩
    · simp only [e2] at hy
      rcases List.mem_append.1 hy with hy | hy
      · exact f1.ok y (by rw [e]; exact List.mem_append_left _ hy)
      · rw [List.mem_singleton.1 hy]; exact hst
    · simp only [e2]
      refine (ord_snoc _ _ _).2 ⟨hord.1, fun q hq => ?_⟩
      have := hord.2 q hq
      exact ⟨fun h => this.1 ⟨by have := h.1; simp only at this; omega, by rcases h.2 with h | h; exact absurd rfl h; exact .inr (by rw [hx]; exact h)⟩, fun h => by have := h.2; simp only at this; omega⟩
    · simp only [e2] at hy
      rw [List.getLast?_append] at hy
      simp at hy
      rw [← hy]
    · simp only [e2] at hy
      rcases List.mem_append.1 hy with hy | hy
      · exact f1.att y (by rw [e]; exact List.mem_append_left _ hy)
      · rw [List.mem_singleton.1 hy]; exact ⟨ht, fun z hz => by cases hz⟩
    · rw [← f2, wu, e2, e, units_app, units_app, units_cons, units_cons, units_nil, us_keep hk, us_keep (s := ⟨0, x.f1 + n, t, []⟩) rfl, hx]
      simp only [List.map_nil, List.append_nil, Int.toNat_zero, List.replicate_zero, List.append_assoc]
      rw [List.replicate_append_replicate, show (x.f1 + n).toNat = x.f1.toNat + n.toNat by omega]
  | false =>
    have hst : StepOK ⟨0, n, t, []⟩ := .inl ⟨rfl, h0, by show n ≤ 2147483647; omega, rfl, hv⟩
    refine ⟨⟨fun y hy => ?_, ?_, fun y hy => ?_, pnil, Int.le_refl _, fun y hy => ?_, fun y hy => by cases hy⟩, ?_⟩
    · simp only [keepO_false] at hy
      rcases List.mem_append.1 hy with hy | hy
      · exact f1.ok y hy
      · rw [List.mem_singleton.1 hy]; exact hst
    · simp only [keepO_false]
      refine (ord_snoc _ _ _).2 ⟨f1.ord, fun q hq => ?_⟩
      rw [Option.or_none] at hq
      refine ⟨fun h => ?_, fun h => by have := h.2; simp only at this; omega⟩
      have hz : 0 < o.length := by
        cases o with
        | nil => cases hq
        | cons a l => simp
      obtain ⟨o', x, e, ex⟩ := last_split hz
      have : x = q := by rw [e, List.getLast?_append] at hq; simpa using hq
      subst this
      rcases h.2 with h' | h'
      · exact h' rfl
      · have := hbi.2 ⟨o', x, e, ex, h.1, h'⟩
        cases this
    · simp only [keepO_false] at hy
      rw [List.getLast?_append] at hy
      simp at hy
      rw [← hy]
    · simp only [keepO_false] at hy
      rcases List.mem_append.1 hy with hy | hy
      · exact f1.att y hy
      · rw [List.mem_singleton.1 hy]; exact ⟨ht, fun z hz => by cases hz⟩
    · rw [← f2, wu, keepO_false, units_app, units_cons, units_nil, us_keep (s := ⟨0, n, t, []⟩) rfl]
      simp
theorem keep_spec {A : Nat} {s : WD} (n : Int) (t : List S38) (h : WF A s) (hv : VA true t) (ht : t.length ≤ A) (hA : A ≤ 1073741824) (h0 : 1 ≤ n) (hl : ((wu s).length : Int) + n ≤ 1073741824) :
    ∃ s', Ev (fun k => keepF k s n t) s' ∧ WF A s' ∧ wu s' = wu s ++ List.replicate n.toNat (.keep t) := by
  obtain ⟨f1, f2, f3, f4⟩ := flush_spec h (by omega)
  have hol := units_len h.ok
  have hwl := wu_len s
  have core := keep_core n t h hv ht hA h0 hl
  obtain ⟨o, ho⟩ : ∃ o, o = flushD s.out s.add s.cut := ⟨_, rfl⟩
  rw [← ho] at f1 f2 f3 f4 core
  obtain ⟨b, hb, hbi⟩ : ∃ b, Ev (fun k => keepB k o t) b ∧ (b = true ↔ Joins o t) := by
    by_cases hz : 0 < o.length
    · obtain ⟨o', x, e, ex⟩ := last_split hz
      by_cases hk : x.f0 = 0
      · obtain ⟨b, hb, hbi⟩ := asame_ev x.f2 t (by have := (f1.att x (by rw [e]; simp)).1; omega)
        refine ⟨b, Ev.congr (fun k => by unfold keepB; rw [if_pos hz, ex, if_pos hk]) hb, hbi.trans ⟨fun h => ⟨o', x, e, ex, hk, h⟩, fun ⟨o2, x2, e2, ex2, _, h⟩ => by rw [← ex, ex2]; exact h⟩⟩
      · exact ⟨false, Ev.congr (fun k => by unfold keepB; rw [if_pos hz, ex, if_neg hk]) (Ev.now false), ⟨(fun h => by cases h), fun ⟨o2, x2, e2, ex2, h, _⟩ => absurd (by rw [← ex, ex2]; exact h) hk⟩⟩
    · exact ⟨false, Ev.congr (fun k => by unfold keepB; rw [if_neg hz]) (Ev.now false), ⟨(fun h => by cases h), fun ⟨o2, x2, e2, _⟩ => absurd (by rw [e2]; simp) hz⟩⟩
  exact ⟨⟨keepO o n t b, [], 0⟩, Ev.congr (fun k => by unfold keepF; rw [if_neg (by omega), if_neg (by omega), ← ho]) (Ev.bind hb (Ev.now _)), core b hbi⟩
theorem dofB_ev {A : Nat} {o : List S70} (t : List S38) (h : FO A o) (hA : A ≤ 1073741824) : ∃ b, Ev (fun k => dofB k o t) b ∧ (b = true ↔ Joins o t) := by
  by_cases hz : 0 < o.length
  · obtain ⟨o', x, e, ex⟩ := last_split hz
    by_cases hk : x.f0 = 0
    · obtain ⟨b, hb, hbi⟩ := rsame_ev x.f2 t (by have := (h.att x (by rw [e]; simp)).1; omega)
      refine ⟨b, Ev.congr (fun k => by unfold dofB; rw [if_pos hz, ex, if_pos hk]) hb, hbi.trans ⟨fun h => ⟨o', x, e, ex, hk, h⟩, fun ⟨o2, x2, e2, ex2, _, h⟩ => by rw [← ex, ex2]; exact h⟩⟩
    · exact ⟨false, Ev.congr (fun k => by unfold dofB; rw [if_pos hz, ex, if_neg hk]) (Ev.now false), ⟨(fun h => by cases h), fun ⟨o2, x2, e2, ex2, h, _⟩ => absurd (by rw [← ex, ex2]; exact h) hk⟩⟩
  · exact ⟨false, Ev.congr (fun k => by unfold dofB; rw [if_neg hz]) (Ev.now false), ⟨(fun h => by cases h), fun ⟨o2, x2, e2, _⟩ => absurd (by rw [e2]; simp) hz⟩⟩
theorem pok_app {a b : List S84} (ha : POK a) (hb : POK b) : POK (a ++ b) := pok_mem.2 (fun x hx => by rcases List.mem_append.1 hx with hx | hx; exact pok_mem.1 ha x hx; exact pok_mem.1 hb x hx)
theorem elems_spec {A : Nat} {s : WD} (l : List S84) (h : WF A s) (hp : POK l) (hat : ∀ y ∈ l, y.f2.length ≤ A) (hA : A ≤ 1073741824) (hl : (wu s).length + l.length ≤ 1073741824) :
    ∃ s', Ev (fun k => elemsF k s l) s' ∧ WF A s' ∧ E (wu s') (wu s ++ l.map .add) := by
  have hwl := wu_len s
  have hfs : FSmall l := fsmall (n := 1073741824) hp ⟨by omega, fun x hx => Nat.le_trans (hat x hx) hA⟩ (Nat.le_refl _)
  refine ⟨⟨s.out, s.add ++ l, s.cut⟩, Ev.bind (copy_ev l hfs) (Ev.congr (fun k => by rw [if_neg (by omega)]) (Ev.now _)), ⟨h.ok, h.ord, h.last, pok_app h.add hp, h.cut, h.att, fun y hy => ?_⟩, ?_⟩
  · rcases List.mem_append.1 hy with hy | hy
    · exact h.atta y hy
    · exact hat y hy
  · have := (E.refl (units s.out ++ s.add.map .add)).app (E.swap s.cut.toNat l).symm
    simpa [wu, List.append_assoc] using this
theorem cut_spec {A : Nat} {s : WD} (n : Int) (h : WF A s) (h0 : 0 ≤ n) : WF A ⟨s.out, s.add, s.cut + n⟩ ∧ wu ⟨s.out, s.add, s.cut + n⟩ = wu s ++ List.replicate n.toNat .cut := by
  have := h.cut
  refine ⟨⟨h.ok, h.ord, h.last, h.add, by show 0 ≤ s.cut + n; omega, h.att, h.atta⟩, ?_⟩
  simp only [wu, List.append_assoc, List.replicate_append_replicate]
  rw [show (s.cut + n).toNat = s.cut.toNat + n.toNat by omega]
theorem done_spec {A : Nat} {s : WD} (h : WF A s) (hA : A ≤ 1073741824) (hl : (wu s).length ≤ 1073741824) : ∃ o, Ev (fun k => doneD k s) (o, 0) ∧ FO A o ∧ units o = wu s := by
  obtain ⟨f1, f2, f3, f4⟩ := flush_spec h (by omega)
  have hol := units_len h.ok
  have hwl := wu_len s
  have hd := f1.dok (by rw [f2]; omega)
  obtain ⟨r, hr, hri⟩ := check_ev _ (dsm f1.ok (f1.db (n := 1073741824) (by rw [f2]; omega) hA) (Nat.le_refl _))
  obtain rfl := hri.2 hd
  exact ⟨_, Ev.congr (fun k => by unfold doneD; rw [if_neg (by omega)]) (Ev.bind hr (Ev.congr (fun k => by rw [if_neg (by decide)]) (Ev.now _))), f1, f2⟩
structure DiceSt (w0 : World) (g : Nat) (raw : List Int) (u : Nat) (w : World) : Prop where
  ex : ∃ (A : Option Addr) (c : Nat), w.heap[g]? = some (.cells #[.slice A raw.length c, .int .i64 (u : Int)] 100 (0, 0)) ∧ Kd.C (Kd.int .i64) w0 A raw.length raw ∧ raw.length ≤ c
theorem wrap_mid {i : Int} (h0 : 0 ≤ i) (h : i ≤ 4611686018427387904) : wrap64 i = i := by unfold wrap64; omega
theorem wrap_k {i : Int} (h0 : 0 ≤ i) (h : i ≤ 4611686018427387904) : IntKind.i64.wrap i = i := by rw [i64_w]; exact wrap_mid h0 h
theorem add_block (a : Addr) (n : Nat) : (a.add n).block = a.block := by unfold Go.Addr.add; split <;> rfl
def rollF (raw : List Int) (u : Nat) (n : Int) : Option Int :=
  if raw.length = 0 then some 0 else chanceryref1_Within.f (wrap64 (rd raw ((u % raw.length : Nat) : Int) + (((u + 1) / raw.length : Nat) : Int))) 0 (wrap64 (n - 1))
def rollU (raw : List Int) (u : Nat) : Nat := if raw.length = 0 then u else u + 1
set_option maxRecDepth 100000 in
set_option maxHeartbeats 4000000 in
theorem roll_calls (w0 : World) (g : Nat) (raw : List Int) (u : Nat) (n r : Int) (w : World) (h0 : w0.heap.size ≤ g) (h : DiceSt w0 g raw u w) (hB : Below w0.heap.size w0 w) (hu : u < 4611686018427387904) (hf : rollF raw u n = some r) :
    Calls Try.prog 70 #[.pointer (some ⟨g, 0, none⟩), .int .i64 n] w fun e w' => e = .returned (.int .i64 r) ∧ DiceSt w0 g raw (rollU raw u) w' ∧ (w.heap.size ≤ w'.heap.size ∧ ∀ k, k < w.heap.size → k ≠ g → w'.heap[k]? = w.heap[k]?) ∧ Below w0.heap.size w0 w' := by
  have hu100 := Try.underlying100
  obtain ⟨A, c, hb, hC, hc⟩ := h.ex
  have hc0 : w.cell? ⟨g, 0, none⟩ = some (.slice A raw.length c) := (blk_cell hb 0).trans rfl
  have hc1 : w.cell? ⟨g, 1, none⟩ = some (.int .i64 (u : Int)) := (blk_cell hb 1).trans rfl
  have hf1 := blk_frozen hb 1
  have HB := Aside0.mk hB
  have HC := Aside0.mk hC
  have HBL := Aside0.mk hb
  have HCC := Aside0.mk hc
  have H0 := Aside0.mk h0
  have HS := Aside0.mk h
  clear h hb hC hB hc h0
  by_cases c1 : raw.length = 0
  · have e' : rollU raw u = u := if_pos c1
    rw [rollF, if_pos c1] at hf
    injection hf with hf
    subst hf
    have c1b : ((raw.length : Int) == 0) = true := beq_iff_eq.mpr (by omega)
    have c1c : (raw.length == 0) = true := beq_iff_eq.mpr c1
    rw [e']
    clear e' c1
    go_enter Try.func70, Try.ntmps70
    go_wp2
    first | go_ret | go_ret2
    exact ⟨rfl, HS.out, ⟨Nat.le_refl _, fun _ _ _ => rfl⟩, HB.out⟩
  · have e' : rollU raw u = u + 1 := if_neg c1
    rw [rollF, if_neg c1] at hf
    have c1b : ((raw.length : Int) == 0) = false := beq_eq_false_iff_ne.mpr (by omega)
    have c1c : (raw.length == 0) = false := beq_eq_false_iff_ne.mpr c1
    rw [e']
    have hlen : 0 < raw.length := by omega
    have hm' : u % raw.length < raw.length := Nat.mod_lt _ hlen
    have hmu : u % raw.length ≤ u := Nat.mod_le _ _
    have hqu : (u + 1) / raw.length ≤ u + 1 := Nat.div_le_self _ _
    have t1 : Int.tmod (u : Int) (raw.length : Int) = ((u % raw.length : Nat) : Int) := rfl
    have t2 : Int.tdiv ((u : Int) + 1) (raw.length : Int) = (((u + 1) / raw.length : Nat) : Int) := rfl
    obtain ⟨m, hm⟩ : ∃ m, m = u % raw.length := ⟨_, rfl⟩
    obtain ⟨q, hq⟩ : ∃ q, q = (u + 1) / raw.length := ⟨_, rfl⟩
    rw [← hm] at t1 hf hm' hmu
    rw [← hq] at t2 hf hqu
    clear hm hq
    obtain ⟨ad0, e0, hx0⟩ := Kd.at_int HC.out (m : Int) (by omega) (by omega)
    cases e0
    have HGN : Aside0 (g ≠ ad0.block) := ⟨fun e => by have := World.block_lt_of_cell? w0 _ hx0; have := H0.out; rw [add_block] at *; omega⟩
    replace hx0 := (HB.out.cell (World.block_lt_of_cell? w0 _ hx0)).trans hx0
    replace hx0 := (World.cell?_setCell_far w ⟨g, 1, none⟩ (ad0.add ((m : Int)).toNat) (.int .i64 ((u : Int) + 1)) (by rw [add_block]; exact HGN.out)).trans hx0
    simp only [Int.toNat_natCast] at hx0
    have w1 : wrap64 ((u : Int) + 1) = (u : Int) + 1 := wrap_mid (by omega) (by omega)
    have w2 : wrap64 (((u : Int) + 1) - 1) = (u : Int) := by rw [Int.add_sub_cancel]; exact wrap_mid (by omega) (by omega)
    have w3 : IntKind.i64.wrap (u : Int) = (u : Int) := wrap_k (by omega) (by omega)
    have w5 : IntKind.i64.wrap (m : Int) = (m : Int) := wrap_k (by omega) (by omega)
    have w6 : IntKind.i64.wrap (q : Int) = (q : Int) := wrap_k (by omega) (by omega)
    have HF := Aside0.mk hf
    have q0 : (m : Int) < (raw.length : Int) := by omega
    have q1 : m < raw.length := by omega
    have c1d : ¬ ((raw.length : Int) = 0) := by omega
    clear e' hf hu hmu hqu
    go_enter Try.func70, Try.ntmps70
    go_wp2
    refine wp_region_still_tail 30 (by kernel_rfl) (by kernel_rfl) ?_
    simp only [List.take_succ_cons, List.take_zero, List.drop_succ_cons, List.drop_zero]
    change wpStill _ _ (World.drew _) (fun a' => wpList _ _ _ _ a' (World.drew _)) _ _
    repeat still_step
    refine wpStill_nil ?_
    go_wp2_with (go_at_call 32; (with_reducible refine (chanceryref1_Within.calls _ _ _ r _ HF.out).mono ?_); rintro e1 w5 ⟨rfl, hd⟩; have HDR := Aside0.mk hd; clear hd)
    first | go_ret | go_ret2
    have hs : w.heap.size = (w.setCell ⟨g, 1, none⟩ (.int .i64 ((u : Int) + 1))).heap.size := by simp [World.setCell]
    have hbb := Below.refl (w.setCell ⟨g, 1, none⟩ (.int .i64 ((u : Int) + 1))).heap.size (w.setCell ⟨g, 1, none⟩ (.int .i64 ((u : Int) + 1)))
    have hbd := below_step (below_drew1 hbb) HDR.out.below
    refine ⟨rfl, ⟨_, _, (hbd.block g (by rw [← hs]; exact blk_lt HBL.out)).trans (blk_put HBL.out 1 _ rfl), HC.out, HCC.out⟩, ⟨by rw [hs]; exact hbd.size, fun k hk hg => ?_⟩, below_step (below_set HB.out H0.out) hbd⟩
    rw [hbd.block k (by rw [← hs]; exact hk), Below.heap_setCell _ _ _ _ hg]
def sOn : ByteArray := ⟨#[111, 110]⟩
def sBold : ByteArray := ⟨#[98, 111, 108, 100]⟩
def sNil : ByteArray := ⟨#[]⟩
def onL (name : ByteArray) : List S38 := [⟨name, sOn⟩]
def addsL (i : Nat) (name : ByteArray) : Nat → List S84
  | 0 => []
  | j + 1 => addsL i name j ++ [⟨65 + ((i + j) % 26 : Nat), 0, onL name⟩]
def attrsL (y : Int) (name : ByteArray) : List S38 := if y = 1 then onL sBold else if y = 2 then [⟨sBold, sNil⟩] else if y = 3 then [⟨sBold, name⟩, ⟨name, sOn⟩] else []
def chL (raw : List Int) (name : ByteArray) : Nat → Nat → Nat → List (List S84) → List Bool → List (List S38) → Option (List (List S84) × List Bool × List (List S38))
  | 0, i, u, As, Cs, Ts => (rollF raw u 8).bind fun x => some (As ++ [addsL i name (x - 5).toNat], Cs, Ts)
  | m + 1, i, u, As, Cs, Ts => (rollF raw u 8).bind fun x => (rollF raw (rollU raw u) 8).bind fun y => (rollF raw (rollU raw (rollU raw u)) 8).bind fun z =>
    chL raw name m (i + 1) (rollU raw (rollU raw (rollU raw u))) (As ++ [addsL i name (x - 5).toNat]) (Cs ++ [z == 0]) (Ts ++ [attrsL y name])
def changeF (k : Nat) (n : Int) (raw : List Int) (name : ByteArray) : Option (List S70) :=
  if 0 ≤ n ∧ n ≤ 1048576 then (chL raw name n.toNat 0 0 [] [] []).bind fun t => dofL k t.1 t.2.1 t.2.2 [] [] 0 else none
structure ChS (w : World) (ga gd : Nat) (raw : List Int) (n : Nat) (As : List (List S84)) (Cs : List Bool) (Ts : List (List S38)) (cA cB cC vA vB vC u : Value) (wr : World) : Prop where
  lga : w.heap.size ≤ ga
  lgd : w.heap.size ≤ gd
  bk : wr.heap[ga]? = some (.cells #[cA, cB, cC] 123 (0, 0))
  rA : Kd.R (Kd.slice 84 k84) 63 wr w.heap.size (fun k => True ∧ some k ≠ u.ownBlock) vA As
  rB : Kd.R Kd.bool 4 wr w.heap.size (fun _ => True) vB Cs
  rC : Kd.R (Kd.slice 38 k38) 32 wr w.heap.size (fun _ => True) vC Ts
  dice : DiceSt w gd raw n wr
  bel : Below w.heap.size w wr
section
variable {w wr w1 : World} {ga gd n : Nat} {raw : List Int} {As As' : List (List S84)} {Cs Cs' : List Bool} {Ts Ts' : List (List S38)} {cA cB cC vA vB vC u u1 v1 lv : Value} {al al' : List S84} {l : List S38}
theorem DiceSt.block (h : DiceSt w gd raw n wr) (hb : w1.heap[gd]? = wr.heap[gd]?) : DiceSt w gd raw n w1 := by
  obtain ⟨A, c, hk, hC, hc⟩ := h.ex
  exact ⟨A, c, hb.trans hk, hC, hc⟩
theorem DiceSt.typed (h : DiceSt w gd raw n wr) : ∃ cs, wr.heap[gd]? = some (.cells cs 100 (0, 0)) := by
  obtain ⟨A, c, hk, hC, hc⟩ := h.ex
  exact ⟨_, hk⟩
theorem ChS.below (h : ChS w ga gd raw n As Cs Ts cA cB cC vA vB vC u wr) (hb : Below wr.heap.size wr w1) : ChS w ga gd raw n As Cs Ts cA cB cC vA vB vC u w1 := by
  obtain ⟨cs, hd⟩ := h.dice.typed
  exact ⟨h.lga, h.lgd, (hb.block _ (blk_lt h.bk)).trans h.bk, Kd.R_below h.rA hb, Kd.R_below h.rB hb, Kd.R_below h.rC hb, h.dice.block (hb.block _ (blk_lt hd)), below_step h.bel hb⟩
theorem ChS.drew (h : ChS w ga gd raw n As Cs Ts cA cB cC vA vB vC u wr) : ChS w ga gd raw n As Cs Ts cA cB cC vA vB vC u wr.drew := h.below (below_drew1 (Below.refl _ _))
theorem r_keep {α : Type} {d : Kd α} {e t : Nat} {base : Nat} {ok : Nat → Prop} {v : Value} {xs : List α} {cs : Array Value} {g : Nat} (h : d.R e wr base ok v xs) (hg : wr.heap[g]? = some (.cells cs t (0, 0))) (ht : ∀ q, q ∈ e :: d.E → q ≠ t) (hfr : ∀ k, k < wr.heap.size → k ≠ g → w1.heap[k]? = wr.heap[k]?) : d.R e w1 base ok v xs :=
  Kd.R_mono (Kd.R_step (Kd.R_types h hg ht) (fun k hk hlt => hfr k hlt hk.2)) (fun _ hk => hk.1)
theorem r_other {α β : Type} {d : Kd α} {d' : Kd β} {e e' : Nat} {base base' : Nat} {ok ok' : Nat → Prop} {v v' : Value} {xs : List α} {ys : List β} (h : d.R e wr base ok v xs) (h' : d'.R e' wr base' ok' v' ys) (ht : ∀ q, q ∈ e :: d.E → q ≠ e') (hg : wr.grownBy w1 v'.ownBlock) : d.R e w1 base ok v xs :=
  Kd.R_mono (Kd.R_grown (Kd.R_apartR h h' ht) hg (fun _ hk => hk.2)) (fun _ hk => hk.1)
theorem ChS.rolled (h : ChS w ga gd raw n As Cs Ts cA cB cC vA vB vC u wr) (hd : DiceSt w gd raw (rollU raw n) w1) (hfr : ∀ k, k < wr.heap.size → k ≠ gd → w1.heap[k]? = wr.heap[k]?) (hb : Below w.heap.size w w1) : ChS w ga gd raw (rollU raw n) As Cs Ts cA cB cC vA vB vC u w1 := by
  obtain ⟨cs, hgd⟩ := h.dice.typed
  have hne : ga ≠ gd := fun e => by have := h.bk; rw [e, hgd] at this; injection this with this; injection this with _ this; exact absurd this (by decide)
  exact ⟨h.lga, h.lgd, (hfr _ (blk_lt h.bk) hne).trans h.bk, r_keep h.rA hgd (by decide) hfr, r_keep h.rB hgd (by decide) hfr, r_keep h.rC hgd (by decide) hfr, hd, hb⟩
theorem ChS.roll_calls (h : ChS w ga gd raw n As Cs Ts cA cB cC vA vB vC u wr) (hu : n < 4611686018427387904) {x : Int} (hf : rollF raw n 8 = some x) :
    Calls Try.prog 70 #[.pointer (some ⟨gd, 0, none⟩), .int .i64 8] wr fun e w' => e = .returned (.int .i64 x) ∧ (ChS w ga gd raw (rollU raw n) As Cs Ts cA cB cC vA vB vC u w' ∧ (∀ k, k < wr.heap.size → k ≠ gd → w'.heap[k]? = wr.heap[k]?) ∧ wr.heap.size ≤ w'.heap.size) := by
  refine (PDelta.roll_calls w gd raw n 8 x wr h.lgd h.dice h.bel hu hf).mono ?_
  rintro e w' ⟨rfl, hd, ⟨hs, hfr⟩, hb⟩
  exact ⟨rfl, h.rolled hd hfr hb, hfr, hs⟩
theorem ChS.appU (h : ChS w ga gd raw n As Cs Ts cA cB cC vA vB vC u wr) (hu : Kd.R k84 84 wr w.heap.size (fun _ => True) u al) (hg : wr.grownBy w1 u.ownBlock) (hat : u1.ownBlock = u.ownBlock ∨ ∃ b, u1.ownBlock = some b ∧ wr.heap.size ≤ b) (hb : Below w.heap.size w w1) :
    ChS w ga gd raw n As Cs Ts cA cB cC vA vB vC u1 w1 := by
  obtain ⟨cs, hgd⟩ := h.dice.typed
  exact ⟨h.lga, h.lgd, blk_grown h.bk hg (Kd.R_ne hu h.bk (by decide)), Kd.R_after h.rA hg hat, r_other h.rB hu (by decide) hg, r_other h.rC hu (by decide) hg, h.dice.block (hg.block _ (blk_lt hgd) (Kd.R_ne hu hgd (by decide))), hb⟩
theorem ChS.appA (h : ChS w ga gd raw n As Cs Ts cA cB cC vA vB vC u wr) (hR : Kd.R (Kd.slice 84 k84) 63 w1 w.heap.size (fun _ => True) v1 As') (hg : wr.grownBy w1 vA.ownBlock) (hb : Below w.heap.size w w1) :
    ChS w ga gd raw n As' Cs Ts cA cB cC v1 vB vC (.slice none 0 0) w1 := by
  obtain ⟨cs, hgd⟩ := h.dice.typed
  exact ⟨h.lga, h.lgd, blk_grown h.bk hg (Kd.R_ne h.rA h.bk (by decide)), Kd.R_mono hR (fun _ _ => ⟨trivial, by simp [Value.ownBlock]⟩), r_other h.rB h.rA (by decide) hg, r_other h.rC h.rA (by decide) hg, h.dice.block (hg.block _ (blk_lt hgd) (Kd.R_ne h.rA hgd (by decide))), hb⟩
theorem ChS.appB (h : ChS w ga gd raw n As Cs Ts cA cB cC vA vB vC u wr) (hR : Kd.R Kd.bool 4 w1 w.heap.size (fun _ => True) v1 Cs') (hg : wr.grownBy w1 vB.ownBlock) (hb : Below w.heap.size w w1) :
    ChS w ga gd raw n As Cs' Ts cA cB cC vA v1 vC u w1 := by
  obtain ⟨cs, hgd⟩ := h.dice.typed
  exact ⟨h.lga, h.lgd, blk_grown h.bk hg (Kd.R_ne h.rB h.bk (by decide)), r_other h.rA h.rB (by decide) hg, hR, r_other h.rC h.rB (by decide) hg, h.dice.block (hg.block _ (blk_lt hgd) (Kd.R_ne h.rB hgd (by decide))), hb⟩
theorem ChS.appC (h : ChS w ga gd raw n As Cs Ts cA cB cC vA vB vC u wr) (hR : Kd.R (Kd.slice 38 k38) 32 w1 w.heap.size (fun _ => True) v1 Ts') (hg : wr.grownBy w1 vC.ownBlock) (hb : Below w.heap.size w w1) :
    ChS w ga gd raw n As Cs Ts' cA cB cC vA vB v1 u w1 := by
  obtain ⟨cs, hgd⟩ := h.dice.typed
  exact ⟨h.lga, h.lgd, blk_grown h.bk hg (Kd.R_ne h.rC h.bk (by decide)), r_other h.rA h.rC (by decide) hg, r_other h.rB h.rC (by decide) hg, hR, h.dice.block (hg.block _ (blk_lt hgd) (Kd.R_ne h.rC hgd (by decide))), hb⟩
theorem ChS.set (h : ChS w ga gd raw n As Cs Ts cA cB cC vA vB vC u wr) (j : Nat) (x a b c : Value) (e : (#[cA, cB, cC] : Array Value).setIfInBounds j x = #[a, b, c]) :
    ChS w ga gd raw n As Cs Ts a b c vA vB vC u (wr.setCell ⟨ga, j, none⟩ x) := by
  obtain ⟨cs, hgd⟩ := h.dice.typed
  have hne : gd ≠ ga := fun e => by have := h.bk; rw [← e, hgd] at this; injection this with this; injection this with _ this; exact absurd this (by decide)
  exact ⟨h.lga, h.lgd, blk_put h.bk j x e, Kd.R_set h.rA h.bk (by decide) j x, Kd.R_set h.rB h.bk (by decide) j x, Kd.R_set h.rC h.bk (by decide) j x, h.dice.block (Below.heap_setCell _ _ _ _ hne), below_set h.bel h.lga⟩
end
end Go.Proofs.Ytdgemabmmomebaa.PDelta
end

/- Parts of the proof of Agree: nothing is claimed here by itself. -/
import Derived.Test.YtlcodfjlbhjkbaaKAgree3
import Derived.StillTailTactics
set_option linter.unusedVariables false
set_option linter.unusedSimpArgs false
section
namespace Go.Proofs.Ytlcodfjlbhjkbaa.PDelta
open Go.RowKit Go.Proofs.YtlcodfjlbhjkbaaW.PrintWords Go.Proofs.YtlcodfjlbhjkbaaW.PrintLast Go.Proofs.YtlcodfjlbhjkbaaW.PrintMore
attribute [local go_sem] max2_int min2_int max_two min_two max_three min_three max_four min_four
attribute [local go_sem high] Go.Proofs.Ytlcodfjlbhjkbaa.Ord.leq_str Go.Proofs.Ytlcodfjlbhjkbaa.Ord.gtr_str Go.Proofs.Ytlcodfjlbhjkbaa.Ord.geq_str
mutual
def axis_Check.l0 : Nat → List (S121) → Int → Int → List (S121) → Int → Int → Option (Int)
 | 0, _, _, _, _, _, _ => none
 | k + 1, x0, x3, x4, x7, x8, x9 => if x9 < x8 then (if 0 ≤ x9 then (if x9 < (x7.length : Int) then (if ((rd_T121 x7 x9).f0) < 0 then (axis_Check.j1 k x0 x3 x4 x9 x7 x8 x9 true ((rd_T121 x7 x9).f0) ((rd_T121 x7 x9).f1)) else (axis_Check.j1 k x0 x3 x4 x9 x7 x8 x9 (decide (((rd_T121 x7 x9).f0) > 2)) ((rd_T121 x7 x9).f0) ((rd_T121 x7 x9).f1))) else (none)) else (none)) else (if x3 > 2147483647 then (some 3) else (if x4 > 2147483647 then (some 3) else (some 0)))
def axis_Check.j3 : Nat → List (S121) → Int → Int → List (S121) → Int → Int → Int → Int → Option (Int)
 | 0, _, _, _, _, _, _, _, _ => none
 | k + 1, x0, x3, x4, x7, x8, x9, x464000, x464001 => if x464000 = 1 then (if x464000 = 2 then (axis_Check.l0 k x0 x3 x4 x7 x8 (wrap64 (x9 + 1))) else (axis_Check.l0 k x0 x3 (mn (wrap64 (x4 + x464001)) 2147483648) x7 x8 (wrap64 (x9 + 1)))) else (if x464000 = 2 then (axis_Check.l0 k x0 (mn (wrap64 (x3 + x464001)) 2147483648) x4 x7 x8 (wrap64 (x9 + 1))) else (axis_Check.l0 k x0 (mn (wrap64 (x3 + x464001)) 2147483648) (mn (wrap64 (x4 + x464001)) 2147483648) x7 x8 (wrap64 (x9 + 1))))
def axis_Check.j1 : Nat → List (S121) → Int → Int → Int → List (S121) → Int → Int → Bool → Int → Int → Option (Int)
 | 0, _, _, _, _, _, _, _, _, _, _ => none
 | k + 1, x0, x3, x4, x5, x7, x8, x9, x14, x464000, x464001 => if x14 = true then (some 8) else (if x464001 < 1 then (axis_Check.j2 k x0 x3 x4 x5 x7 x8 x9 true x464000 x464001) else (axis_Check.j2 k x0 x3 x4 x5 x7 x8 x9 (decide (x464001 > 2147483647)) x464000 x464001))
def axis_Check.j2 : Nat → List (S121) → Int → Int → Int → List (S121) → Int → Int → Bool → Int → Int → Option (Int)
 | 0, _, _, _, _, _, _, _, _, _, _ => none
 | k + 1, x0, x3, x4, x5, x7, x8, x9, x23, x464000, x464001 => if x23 = true then (some 2) else (if x5 > 0 then (if 0 ≤ (wrap64 (x5 - 1)) then (if (wrap64 (x5 - 1)) < (x0.length : Int) then (if ((rd_T121 x0 (wrap64 (x5 - 1))).f0) = x464000 then (some 5) else (if ((rd_T121 x0 (wrap64 (x5 - 1))).f0) = 2 then (if x464000 = 1 then (some 5) else (axis_Check.j3 k x0 x3 x4 x7 x8 x9 x464000 x464001)) else (axis_Check.j3 k x0 x3 x4 x7 x8 x9 x464000 x464001))) else (none)) else (none)) else (axis_Check.j3 k x0 x3 x4 x7 x8 x9 x464000 x464001))
end
def axis_Check.f (k : Nat) (l0 : List (S121)) : Option (Int) := axis_Check.l0 k l0 0 0 l0 (l0.length : Int) 0
theorem axis_Check.mono_l : ∀ k, (∀ y0 y1 y2 y3 y4 y5, LeO (axis_Check.l0 k y0 y1 y2 y3 y4 y5) (axis_Check.l0 (k + 1) y0 y1 y2 y3 y4 y5)) ∧ (∀ y0 y1 y2 y3 y4 y5 y6 y7, LeO (axis_Check.j3 k y0 y1 y2 y3 y4 y5 y6 y7) (axis_Check.j3 (k + 1) y0 y1 y2 y3 y4 y5 y6 y7)) ∧ (∀ y0 y1 y2 y3 y4 y5 y6 y7 y8 y9, LeO (axis_Check.j1 k y0 y1 y2 y3 y4 y5 y6 y7 y8 y9) (axis_Check.j1 (k + 1) y0 y1 y2 y3 y4 y5 y6 y7 y8 y9)) ∧ (∀ y0 y1 y2 y3 y4 y5 y6 y7 y8 y9, LeO (axis_Check.j2 k y0 y1 y2 y3 y4 y5 y6 y7 y8 y9) (axis_Check.j2 (k + 1) y0 y1 y2 y3 y4 y5 y6 y7 y8 y9))
 | 0 => ⟨fun _ _ _ _ _ _ r h => by simp [axis_Check.l0] at h, fun _ _ _ _ _ _ _ _ r h => by simp [axis_Check.j3] at h, fun _ _ _ _ _ _ _ _ _ _ r h => by simp [axis_Check.j1] at h, fun _ _ _ _ _ _ _ _ _ _ r h => by simp [axis_Check.j2] at h⟩
 | k + 1 => by
  obtain ⟨ih0, ih1, ih2, ih3⟩ := axis_Check.mono_l k
  refine ⟨?_, ?_, ?_, ?_⟩
  ·intro y0 y1 y2 y3 y4 y5
   unfold axis_Check.l0
   repeat' first
   | (with_reducible exact ih0 _ _ _ _ _ _)
   | (with_reducible exact ih1 _ _ _ _ _ _ _ _)
   | (with_reducible exact ih2 _ _ _ _ _ _ _ _ _ _)
   | (with_reducible exact ih3 _ _ _ _ _ _ _ _ _ _)
   | (with_reducible exact LeO.refl _)
   | (with_reducible exact LeO.none _)
   | (with_reducible refine LeO.ite ?_ ?_)
   | (with_reducible refine LeO.bind ?_ (fun _ => ?_))
   | exact ih0 _ _ _ _ _ _
   | exact ih1 _ _ _ _ _ _ _ _
   | exact ih2 _ _ _ _ _ _ _ _ _ _
   | exact ih3 _ _ _ _ _ _ _ _ _ _
   | exact LeO.none _
   | refine LeO.ite ?_ ?_
   | refine LeO.bind ?_ (fun _ => ?_)
  ·intro y0 y1 y2 y3 y4 y5 y6 y7
   unfold axis_Check.j3
   repeat' first
   | (with_reducible exact ih0 _ _ _ _ _ _)
   | (with_reducible exact ih1 _ _ _ _ _ _ _ _)
   | (with_reducible exact ih2 _ _ _ _ _ _ _ _ _ _)
   | (with_reducible exact ih3 _ _ _ _ _ _ _ _ _ _)
   | (with_reducible exact LeO.refl _)
   | (with_reducible exact LeO.none _)
   | (with_reducible refine LeO.ite ?_ ?_)
   | (with_reducible refine LeO.bind ?_ (fun _ => ?_))
   | exact ih0 _ _ _ _ _ _
   | exact ih1 _ _ _ _ _ _ _ _
   | exact ih2 _ _ _ _ _ _ _ _ _ _
   | exact ih3 _ _ _ _ _ _ _ _ _ _
   | exact LeO.none _
   | refine LeO.ite ?_ ?_
   | refine LeO.bind ?_ (fun _ => ?_)
  ·intro y0 y1 y2 y3 y4 y5 y6 y7 y8 y9
   unfold axis_Check.j1
   repeat' first
   | (with_reducible exact ih0 _ _ _ _ _ _)
   | (with_reducible exact ih1 _ _ _ _ _ _ _ _)
   | (with_reducible exact ih2 _ _ _ _ _ _ _ _ _ _)
   | (with_reducible exact ih3 _ _ _ _ _ _ _ _ _ _)
   | (with_reducible exact LeO.refl _)
   | (with_reducible exact LeO.none _)
   | (with_reducible refine LeO.ite ?_ ?_)
   | (with_reducible refine LeO.bind ?_ (fun _ => ?_))
   | exact ih0 _ _ _ _ _ _
   | exact ih1 _ _ _ _ _ _ _ _
   | exact ih2 _ _ _ _ _ _ _ _ _ _
   | exact ih3 _ _ _ _ _ _ _ _ _ _
   | exact LeO.none _
   | refine LeO.ite ?_ ?_
   | refine LeO.bind ?_ (fun _ => ?_)
  ·intro y0 y1 y2 y3 y4 y5 y6 y7 y8 y9
   unfold axis_Check.j2
   repeat' first
   | (with_reducible exact ih0 _ _ _ _ _ _)
   | (with_reducible exact ih1 _ _ _ _ _ _ _ _)
   | (with_reducible exact ih2 _ _ _ _ _ _ _ _ _ _)
   | (with_reducible exact ih3 _ _ _ _ _ _ _ _ _ _)
   | (with_reducible exact LeO.refl _)
   | (with_reducible exact LeO.none _)
   | (with_reducible refine LeO.ite ?_ ?_)
   | (with_reducible refine LeO.bind ?_ (fun _ => ?_))
   | exact ih0 _ _ _ _ _ _
   | exact ih1 _ _ _ _ _ _ _ _
   | exact ih2 _ _ _ _ _ _ _ _ _ _
   | exact ih3 _ _ _ _ _ _ _ _ _ _
   | exact LeO.none _
   | refine LeO.ite ?_ ?_
   | refine LeO.bind ?_ (fun _ => ?_)
theorem axis_Check.mono : ∀ a0 k, LeO (axis_Check.f k a0) (axis_Check.f (k + 1) a0) := by
 intro a0 k
 obtain ⟨ih0, ih1, ih2, ih3⟩ := axis_Check.mono_l k
 unfold axis_Check.f
 repeat' first
   | (with_reducible exact ih0 _ _ _ _ _ _)
   | (with_reducible exact ih1 _ _ _ _ _ _ _ _)
   | (with_reducible exact ih2 _ _ _ _ _ _ _ _ _ _)
   | (with_reducible exact ih3 _ _ _ _ _ _ _ _ _ _)
   | (with_reducible exact LeO.refl _)
   | (with_reducible exact LeO.none _)
   | (with_reducible refine LeO.ite ?_ ?_)
   | (with_reducible refine LeO.bind ?_ (fun _ => ?_))
   | exact ih0 _ _ _ _ _ _
   | exact ih1 _ _ _ _ _ _ _ _
   | exact ih2 _ _ _ _ _ _ _ _ _ _
   | exact ih3 _ _ _ _ _ _ _ _ _ _
   | exact LeO.none _
   | refine LeO.ite ?_ ?_
   | refine LeO.bind ?_ (fun _ => ?_)
set_option maxHeartbeats 8000000 in
set_option maxRecDepth 100000 in
theorem axis_Check.calls (k : Nat) (A0 : Option Addr) (c0 : Nat) (l0 : List (S121)) (r : Int) (w : World) (hr0 : Kd.C k121 w A0 l0.length l0) (hc0 : l0.length ≤ c0) (h : axis_Check.f k l0 = some r) :
  Calls Try.prog 69 #[.slice A0 l0.length c0] w fun e w' => e = .returned (.int .i64 r) ∧ Below w.heap.size w w' := by
 have hu121 := Try.underlying121
 have HR0 := Aside0.mk hr0
 have HC0 := Aside0.mk hc0
 clear hr0 hc0
 have HB := Aside0.mk (Below.refl w.heap.size w)
 have H : (axis_Check.l0 k l0 0 0 l0 (l0.length : Int) 0) = some r := h
 clear h
 have H' := Aside0.mk H
 clear H
 go_enter Try.func69, Try.ntmps69
 go_wp2
 repeat (go_quiet (fail); try go_wp2)
 go_loopg [3, 4, 9] k (fun kq v3 v4 v9 w' => ∃ (x3_1 : Int) (x4_1 : Int) (x9_1 : Int), v3 = .int .i64 x3_1 ∧ v4 = .int .i64 x4_1 ∧ v9 = .int .i64 x9_1 ∧ Aside0 (axis_Check.l0 kq l0 x3_1 x4_1 l0 (l0.length : Int) x9_1 = some r) ∧ Aside0 (kq ≤ k) ∧ Aside0 (Below w.heap.size w w'))
 case atStart => exact ⟨(0), (0), (0), (by first | rfl | (simp; done) | (simp [*]; done)), (by first | rfl | (simp; done) | (simp [*]; done)), (by first | rfl | (simp; done) | (simp [*]; done)), H', ⟨Nat.le_refl _⟩, ⟨by repeat (first | (with_reducible first | exact HB.out | apply below_alloc | apply pw_below_drewN | apply below_drew1) | exact HB.out)⟩⟩
 case round =>
  clear H'
  obtain ⟨x3_1, x4_1, x9_1, rfl, rfl, rfl, HA, HK1, HB⟩ := hrel
  cases gk with
  | zero => exact absurd HA.out (by simp [axis_Check.l0])
  | succ k1 =>
   have H := HA.out
   clear HA
   simp only [axis_Check.l0] at H
   by_cases c2 : x9_1 < (l0.length : Int)
   ·rw [if_pos c2] at H
    have c2b0 : decide (x9_1 < (l0.length : Int)) = true := decide_eq_true c2
    clear c2
    by_cases c3 : 0 ≤ x9_1
    ·rw [if_pos c3] at H
     have c3b0 : decide (0 ≤ x9_1) = true := decide_eq_true c3
     clear c3
     by_cases c4 : x9_1 < (l0.length : Int)
     ·rw [if_pos c4] at H
      have c4b0 : decide (x9_1 < (l0.length : Int)) = true := decide_eq_true c4
      clear c4
      have HC5 := Aside0.mk H
      clear H
      have p462 : 0 ≤ (x9_1 : Int) := of_decide_eq_true (by assumption)
      have q462 : x9_1 < (l0.length : Int) := of_decide_eq_true (by assumption)
      obtain ⟨ad462, e462, hx462_0, hx462_1⟩ := at_T121 HR0.out x9_1 p462 q462
      cases e462
      replace hx462_0 := (HB.out.cell (World.block_lt_of_cell? w _ hx462_0)).trans hx462_0
      replace hx462_1 := (HB.out.cell (World.block_lt_of_cell? w _ hx462_1)).trans hx462_1
      replace p462 := eq_true p462
      replace q462 := eq_true q462
      go_upto_block 2 with (first | ((with_reducible refine gate_dst (N := 6) rfl ?_); refine box_event ?hg (N := 6) ?hd (cs := #[.int .i64 0, .int .i64 0]) (t := 121) ?hr ?_; (case hd => rfl); (case hg => rfl); (case hr => first | (go_simp; done) | (go_simp; rfl)); intro gb463 hg w6 hbox hb; have n0_ := Aside0.mk (below_step (by with_reducible repeat first | exact HB.out | apply below_alloc | apply pw_below_drewN | apply below_drew1) hb); have n1_ := Aside0.mk (hbox); have n2_ := Aside0.mk ((by rw [hg]; exact (below_size (by with_reducible repeat first | exact HB.out | apply below_alloc | apply pw_below_drewN | apply below_drew1)) : w.heap.size ≤ gb463)); have n3_ := Aside0.mk ((by rw [hg]; exact (below_size (by with_reducible repeat first | exact HB.out | apply below_alloc | apply pw_below_drewN | apply below_drew1)) : w.heap.size ≤ gb463)); clear HB; have HB := n0_; have BK463 := n1_; have GW463 := n2_; have GE463 := n3_; clear n0_ n1_ n2_ n3_; clear hb hbox hg; have hcz7_0 : w6.cell? ⟨gb463, 0, none⟩ = some (.int .i64 0) := (blk_cell BK463.out 0).trans rfl; have hcz7_1 : w6.cell? ⟨gb463, 1, none⟩ = some (.int .i64 0) := (blk_cell BK463.out 1).trans rfl; have hfz7_0 := blk_frozen BK463.out 0; have hfz7_1 := blk_frozen BK463.out 1))
      repeat (go_quiet (first | ((with_reducible refine gate_dst (N := 6) rfl ?_); refine box_event ?hg (N := 6) ?hd (cs := #[.int .i64 0, .int .i64 0]) (t := 121) ?hr ?_; (case hd => rfl); (case hg => rfl); (case hr => first | (go_simp; done) | (go_simp; rfl)); intro gb463 hg w6 hbox hb; have n0_ := Aside0.mk (below_step (by with_reducible repeat first | exact HB.out | apply below_alloc | apply pw_below_drewN | apply below_drew1) hb); have n1_ := Aside0.mk (hbox); have n2_ := Aside0.mk ((by rw [hg]; exact (below_size (by with_reducible repeat first | exact HB.out | apply below_alloc | apply pw_below_drewN | apply below_drew1)) : w.heap.size ≤ gb463)); have n3_ := Aside0.mk ((by rw [hg]; exact (below_size (by with_reducible repeat first | exact HB.out | apply below_alloc | apply pw_below_drewN | apply below_drew1)) : w.heap.size ≤ gb463)); clear HB; have HB := n0_; have BK463 := n1_; have GW463 := n2_; have GE463 := n3_; clear n0_ n1_ n2_ n3_; clear hb hbox hg; have hcz7_0 : w6.cell? ⟨gb463, 0, none⟩ = some (.int .i64 0) := (blk_cell BK463.out 0).trans rfl; have hcz7_1 : w6.cell? ⟨gb463, 1, none⟩ = some (.int .i64 0) := (blk_cell BK463.out 1).trans rfl; have hfz7_0 := blk_frozen BK463.out 0; have hfz7_1 := blk_frozen BK463.out 1)); go_upto_block 2 with (first | ((with_reducible refine gate_dst (N := 6) rfl ?_); refine box_event ?hg (N := 6) ?hd (cs := #[.int .i64 0, .int .i64 0]) (t := 121) ?hr ?_; (case hd => rfl); (case hg => rfl); (case hr => first | (go_simp; done) | (go_simp; rfl)); intro gb463 hg w6 hbox hb; have n0_ := Aside0.mk (below_step (by with_reducible repeat first | exact HB.out | apply below_alloc | apply pw_below_drewN | apply below_drew1) hb); have n1_ := Aside0.mk (hbox); have n2_ := Aside0.mk ((by rw [hg]; exact (below_size (by with_reducible repeat first | exact HB.out | apply below_alloc | apply pw_below_drewN | apply below_drew1)) : w.heap.size ≤ gb463)); have n3_ := Aside0.mk ((by rw [hg]; exact (below_size (by with_reducible repeat first | exact HB.out | apply below_alloc | apply pw_below_drewN | apply below_drew1)) : w.heap.size ≤ gb463)); clear HB; have HB := n0_; have BK463 := n1_; have GW463 := n2_; have GE463 := n3_; clear n0_ n1_ n2_ n3_; clear hb hbox hg; have hcz7_0 : w6.cell? ⟨gb463, 0, none⟩ = some (.int .i64 0) := (blk_cell BK463.out 0).trans rfl; have hcz7_1 : w6.cell? ⟨gb463, 1, none⟩ = some (.int .i64 0) := (blk_cell BK463.out 1).trans rfl; have hfz7_0 := blk_frozen BK463.out 0; have hfz7_1 := blk_frozen BK463.out 1)))
      (try simp only [Act.put, List.setIfInBounds_toArray, List.set_cons_zero, List.set_cons_succ])
      go_cut [] (fun wc => ∃ (kq : Nat), Aside0 (axis_Check.j3 kq l0 x3_1 x4_1 l0 (l0.length : Int) x9_1 ((rd_T121 l0 x9_1).f0) ((rd_T121 l0 x9_1).f1) = some r) ∧ Aside0 (kq ≤ k1) ∧ Aside0 (wc.heap[gb463]? = some (.cells #[.int .i64 ((rd_T121 l0 x9_1).f0), .int .i64 ((rd_T121 l0 x9_1).f1)] 121 (0, 0))) ∧ Aside0 (Below w.heap.size w wc))
      case first =>
       have H := HC5.out
       clear HC5
       have HC8 := Aside0.mk H
       clear H
       go_upto_region 5 with (fail)
       repeat (go_quiet (fail); go_upto_region 5 with (fail))
       go_cut [14] (fun v14 wc => ∃ (kq : Nat) (x14_7 : Bool), v14 = .bool x14_7 ∧ Aside0 (axis_Check.j1 kq l0 x3_1 x4_1 x9_1 l0 (l0.length : Int) x9_1 x14_7 ((rd_T121 l0 x9_1).f0) ((rd_T121 l0 x9_1).f1) = some r) ∧ Aside0 (kq ≤ k1) ∧ Aside0 (wc.heap[gb463]? = some (.cells #[.int .i64 ((rd_T121 l0 x9_1).f0), .int .i64 ((rd_T121 l0 x9_1).f1)] 121 (0, 0))) ∧ Aside0 (Below w.heap.size w wc))
       case first =>
        have H := HC8.out
        clear HC8
        by_cases c9 : ((rd_T121 l0 x9_1).f0) < 0
        ·rw [if_pos c9] at H
         have c9b0 : decide (((rd_T121 l0 x9_1).f0) < 0) = true := decide_eq_true c9
         clear c9
         (first | rw [c9b0] | (simp only [i64_w, i32_w]; rw [c9b0]) | skip)
         have H' := Aside0.mk H
         clear H
         have hcz10_0 : w6.cell? ⟨gb463, 0, none⟩ = some (.int .i64 0) := (blk_cell BK463.out 0).trans rfl
         have hcz10_1 : w6.cell? ⟨gb463, 1, none⟩ = some (.int .i64 0) := (blk_cell BK463.out 1).trans rfl
         have hfz10_0 := blk_frozen BK463.out 0
         have hfz10_1 := blk_frozen BK463.out 1
         go_wp2
         repeat (go_quiet (fail); try go_wp2)
         go_meet
         case rel => exact ⟨_, (true), (by first | rfl | (simp; done) | (simp [*]; done)), H', ⟨by have := HK1.out; first | omega | exact Nat.le_refl _⟩, ⟨by (with_reducible repeat (first | refine blk_drewN ?_ _ | refine blk_drew ?_ | refine blk_alloc ?_ _)); refine blk_put (cs := #[.int .i64 ((rd_T121 l0 x9_1).f0), .int .i64 0]) ?_ 1 _ rfl; (with_reducible repeat (first | refine blk_drewN ?_ _ | refine blk_drew ?_ | refine blk_alloc ?_ _)); refine blk_put (cs := #[.int .i64 0, .int .i64 0]) ?_ 0 _ rfl; (with_reducible repeat (first | refine blk_drewN ?_ _ | refine blk_drew ?_ | refine blk_alloc ?_ _)); exact BK463.out⟩, ⟨by repeat (first | (with_reducible first | exact HB.out | apply below_alloc | apply pw_below_drewN | apply below_drew1 | refine below_set ?_ GE463.out) | exact HB.out)⟩⟩
        ·rw [if_neg c9] at H
         have c9b0 : decide (((rd_T121 l0 x9_1).f0) < 0) = false := decide_eq_false c9
         clear c9
         (first | rw [c9b0] | (simp only [i64_w, i32_w]; rw [c9b0]) | skip)
         have H' := Aside0.mk H
         clear H
         have hcz11_0 : w6.cell? ⟨gb463, 0, none⟩ = some (.int .i64 0) := (blk_cell BK463.out 0).trans rfl
         have hcz11_1 : w6.cell? ⟨gb463, 1, none⟩ = some (.int .i64 0) := (blk_cell BK463.out 1).trans rfl
         have hfz11_0 := blk_frozen BK463.out 0
         have hfz11_1 := blk_frozen BK463.out 1
         go_wp2
         repeat (go_quiet (fail); try go_wp2)
         go_meet
         case rel => exact ⟨_, (decide (((rd_T121 l0 x9_1).f0) > 2)), (by first | rfl | (simp; done) | (simp [*]; done)), H', ⟨by have := HK1.out; first | omega | exact Nat.le_refl _⟩, ⟨by (with_reducible repeat (first | refine blk_drewN ?_ _ | refine blk_drew ?_ | refine blk_alloc ?_ _)); refine blk_put (cs := #[.int .i64 ((rd_T121 l0 x9_1).f0), .int .i64 0]) ?_ 1 _ rfl; (with_reducible repeat (first | refine blk_drewN ?_ _ | refine blk_drew ?_ | refine blk_alloc ?_ _)); refine blk_put (cs := #[.int .i64 0, .int .i64 0]) ?_ 0 _ rfl; (with_reducible repeat (first | refine blk_drewN ?_ _ | refine blk_drew ?_ | refine blk_alloc ?_ _)); exact BK463.out⟩, ⟨by repeat (first | (with_reducible first | exact HB.out | apply below_alloc | apply pw_below_drewN | apply below_drew1 | refine below_set ?_ GE463.out) | exact HB.out)⟩⟩
       case rest =>
        clear HC8
        try clear c2
        try clear c2b0
        try clear p2
        try clear c3
        try clear c3b0
        try clear c4
        try clear c4b0
        try clear p4
        try clear q4
        try clear hx4
        try clear c6
        try clear c9
        try clear c9b0
        try clear hcz10_0
        try clear hcz10_1
        try clear hcz11_0
        try clear hcz11_1
        try clear hcz7_0
        try clear hcz7_1
        try clear hfz10_0
        try clear hfz10_1
        try clear hfz11_0
        try clear hfz11_1
        try clear hfz7_0
        try clear hfz7_1
        try clear hx462_0
        try clear hx462_1
        try clear p462
        try clear q462
        obtain ⟨kq, x14_7, rfl, HA, HJ7, BK463, HB⟩ := hcut
        cases kq with
        | zero => exact absurd HA.out (by simp [axis_Check.j1])
        | succ kj7 =>
         have H := HA.out
         clear HA
         simp only [axis_Check.j1] at H
         by_cases c12 : x14_7 = true
         ·subst c12
          have H1 : (some 8) = some r := by rw [if_pos rfl] at H; exact H
          clear H
          have H := H1
          clear H1
          obtain rfl := Option.some.inj H
          go_wp2
          repeat (go_quiet (fail); try go_wp2)
          go_ret
          exact ⟨by first | rfl | (simp [errW_none, errW_some] <;> rfl) | (simp [*, errW_none, errW_some] <;> rfl), by repeat (first | (with_reducible first | exact HB.out | apply below_alloc | apply pw_below_drewN | apply below_drew1 | refine below_set ?_ GE463.out) | exact HB.out)⟩
         ·replace c12 := Bool.eq_false_iff.mpr c12
          subst c12
          have H1 : (if ((rd_T121 l0 x9_1).f1) < 1 then (axis_Check.j2 kj7 l0 x3_1 x4_1 x9_1 l0 (l0.length : Int) x9_1 true ((rd_T121 l0 x9_1).f0) ((rd_T121 l0 x9_1).f1)) else (axis_Check.j2 kj7 l0 x3_1 x4_1 x9_1 l0 (l0.length : Int) x9_1 (decide (((rd_T121 l0 x9_1).f1) > 2147483647)) ((rd_T121 l0 x9_1).f0) ((rd_T121 l0 x9_1).f1))) = some r := by rw [if_neg (show ¬ (false = true) by decide)] at H; exact H
          clear H
          have H := H1
          clear H1
          have HC13 := Aside0.mk H
          clear H
          go_upto_region 7 with (fail)
          repeat (go_quiet (fail); go_upto_region 7 with (fail))
          go_cut [23] (fun v23 wc => ∃ (kq : Nat) (x23_12 : Bool), v23 = .bool x23_12 ∧ Aside0 (axis_Check.j2 kq l0 x3_1 x4_1 x9_1 l0 (l0.length : Int) x9_1 x23_12 ((rd_T121 l0 x9_1).f0) ((rd_T121 l0 x9_1).f1) = some r) ∧ Aside0 (kq ≤ kj7) ∧ Aside0 (wc.heap[gb463]? = some (.cells #[.int .i64 ((rd_T121 l0 x9_1).f0), .int .i64 ((rd_T121 l0 x9_1).f1)] 121 (0, 0))) ∧ Aside0 (Below w.heap.size w wc))
          case first =>
           have H := HC13.out
           clear HC13
           by_cases c14 : ((rd_T121 l0 x9_1).f1) < 1
           ·rw [if_pos c14] at H
            have c14b0 : decide (((rd_T121 l0 x9_1).f1) < 1) = true := decide_eq_true c14
            clear c14
            (first | rw [c14b0] | (simp only [i64_w, i32_w]; rw [c14b0]) | skip)
            have H' := Aside0.mk H
            clear H
            have hcz15_0 : wc.cell? ⟨gb463, 0, none⟩ = some (.int .i64 ((rd_T121 l0 x9_1).f0)) := (blk_cell BK463.out 0).trans rfl
            have hcz15_1 : wc.cell? ⟨gb463, 1, none⟩ = some (.int .i64 ((rd_T121 l0 x9_1).f1)) := (blk_cell BK463.out 1).trans rfl
            have hfz15_0 := blk_frozen BK463.out 0
            have hfz15_1 := blk_frozen BK463.out 1
            go_wp2
            repeat (go_quiet (fail); try go_wp2)
            go_meet
            case rel => exact ⟨_, (true), (by first | rfl | (simp; done) | (simp [*]; done)), H', ⟨by have := HK1.out; have := HJ7.out; first | omega | exact Nat.le_refl _⟩, ⟨by (with_reducible repeat (first | refine blk_drewN ?_ _ | refine blk_drew ?_ | refine blk_alloc ?_ _)); exact BK463.out⟩, ⟨by repeat (first | (with_reducible first | exact HB.out | apply below_alloc | apply pw_below_drewN | apply below_drew1 | refine below_set ?_ GE463.out) | exact HB.out)⟩⟩
           ·rw [if_neg c14] at H
            have c14b0 : decide (((rd_T121 l0 x9_1).f1) < 1) = false := decide_eq_false c14
            clear c14
            (first | rw [c14b0] | (simp only [i64_w, i32_w]; rw [c14b0]) | skip)
            have H' := Aside0.mk H
            clear H
            have hcz16_0 : wc.cell? ⟨gb463, 0, none⟩ = some (.int .i64 ((rd_T121 l0 x9_1).f0)) := (blk_cell BK463.out 0).trans rfl
            have hcz16_1 : wc.cell? ⟨gb463, 1, none⟩ = some (.int .i64 ((rd_T121 l0 x9_1).f1)) := (blk_cell BK463.out 1).trans rfl
            have hfz16_0 := blk_frozen BK463.out 0
            have hfz16_1 := blk_frozen BK463.out 1
            go_wp2
            repeat (go_quiet (fail); try go_wp2)
            go_meet
            case rel => exact ⟨_, (decide (((rd_T121 l0 x9_1).f1) > 2147483647)), (by first | rfl | (simp; done) | (simp [*]; done)), H', ⟨by have := HK1.out; have := HJ7.out; first | omega | exact Nat.le_refl _⟩, ⟨by (with_reducible repeat (first | refine blk_drewN ?_ _ | refine blk_drew ?_ | refine blk_alloc ?_ _)); exact BK463.out⟩, ⟨by repeat (first | (with_reducible first | exact HB.out | apply below_alloc | apply pw_below_drewN | apply below_drew1 | refine below_set ?_ GE463.out) | exact HB.out)⟩⟩
          case rest =>
           clear HC13
           try clear c1
           try clear c2
           try clear c2b0
           try clear p2
           try clear c3
           try clear c3b0
           try clear c4
           try clear c4b0
           try clear p4
           try clear q4
           try clear hx4
           try clear c6
           try clear c9
           try clear c9b0
           try clear c12
           try clear c14
           try clear c14b0
           try clear hcz10_0
           try clear hcz10_1
           try clear hcz11_0
           try clear hcz11_1
           try clear hcz15_0
           try clear hcz15_1
           try clear hcz16_0
           try clear hcz16_1
           try clear hcz7_0
           try clear hcz7_1
           try clear hfz10_0
           try clear hfz10_1
           try clear hfz11_0
           try clear hfz11_1
           try clear hfz15_0
           try clear hfz15_1
           try clear hfz16_0
           try clear hfz16_1
           try clear hfz7_0
           try clear hfz7_1
           try clear hx462_0
           try clear hx462_1
           try clear p2
           try clear p4
           try clear p462
           try clear q4
           try clear q462
           obtain ⟨kq, x23_12, rfl, HA, HJ12, BK463, HB⟩ := hcut
           cases kq with
           | zero => exact absurd HA.out (by simp [axis_Check.j2])
           | succ kj12 =>
            have H := HA.out
            clear HA
            simp only [axis_Check.j2] at H
            by_cases c17 : x23_12 = true
            ·subst c17
             have H1 : (some 2) = some r := by rw [if_pos rfl] at H; exact H
             clear H
             have H := H1
             clear H1
             obtain rfl := Option.some.inj H
             go_wp2
             repeat (go_quiet (fail); try go_wp2)
             go_ret
             exact ⟨by first | rfl | (simp [errW_none, errW_some] <;> rfl) | (simp [*, errW_none, errW_some] <;> rfl), by repeat (first | (with_reducible first | exact HB.out | apply below_alloc | apply pw_below_drewN | apply below_drew1 | refine below_set ?_ GE463.out) | exact HB.out)⟩
            ·replace c17 := Bool.eq_false_iff.mpr c17
             subst c17
             have H1 : (if x9_1 > 0 then (if 0 ≤ (wrap64 (x9_1 - 1)) then (if (wrap64 (x9_1 - 1)) < (l0.length : Int) then (if ((rd_T121 l0 (wrap64 (x9_1 - 1))).f0) = ((rd_T121 l0 x9_1).f0) then (some 5) else (if ((rd_T121 l0 (wrap64 (x9_1 - 1))).f0) = 2 then (if ((rd_T121 l0 x9_1).f0) = 1 then (some 5) else (axis_Check.j3 kj12 l0 x3_1 x4_1 l0 (l0.length : Int) x9_1 ((rd_T121 l0 x9_1).f0) ((rd_T121 l0 x9_1).f1))) else (axis_Check.j3 kj12 l0 x3_1 x4_1 l0 (l0.length : Int) x9_1 ((rd_T121 l0 x9_1).f0) ((rd_T121 l0 x9_1).f1)))) else (none)) else (none)) else (axis_Check.j3 kj12 l0 x3_1 x4_1 l0 (l0.length : Int) x9_1 ((rd_T121 l0 x9_1).f0) ((rd_T121 l0 x9_1).f1))) = some r := by rw [if_neg (show ¬ (false = true) by decide)] at H; exact H
             clear H
             have H := H1
             clear H1
             by_cases c18 : x9_1 > 0
             ·rw [if_pos c18] at H
              have c18b0 : decide (0 < x9_1) = true := decide_eq_true c18
              clear c18
              obtain ⟨ji19, hji19⟩ : ∃ j_ : Int, (wrap64 (x9_1 - 1)) = j_ := ⟨_, rfl⟩
              replace H : (if 0 ≤ (ji19) then (if (ji19) < (l0.length : Int) then (if ((rd_T121 l0 (ji19)).f0) = ((rd_T121 l0 x9_1).f0) then (some 5) else (if ((rd_T121 l0 (ji19)).f0) = 2 then (if ((rd_T121 l0 x9_1).f0) = 1 then (some 5) else (axis_Check.j3 kj12 l0 x3_1 x4_1 l0 (l0.length : Int) x9_1 ((rd_T121 l0 x9_1).f0) ((rd_T121 l0 x9_1).f1))) else (axis_Check.j3 kj12 l0 x3_1 x4_1 l0 (l0.length : Int) x9_1 ((rd_T121 l0 x9_1).f0) ((rd_T121 l0 x9_1).f1)))) else (none)) else (none)) = some r := by first | (rw [hji19] at H; exact H) | (simp only [hji19] at H ⊢; exact H)
              have hji19w : (IntKind.i64.wrap (x9_1 - 1)) = ji19 := (i64_w _).trans hji19
              by_cases c20 : 0 ≤ (ji19)
              ·rw [if_pos c20] at H
               have c20b0 : decide (0 ≤ (ji19)) = true := decide_eq_true c20
               clear c20
               by_cases c21 : (ji19) < (l0.length : Int)
               ·rw [if_pos c21] at H
                have c21b0 : decide ((ji19) < (l0.length : Int)) = true := decide_eq_true c21
                clear c21
                by_cases c22 : ((rd_T121 l0 (ji19)).f0) = ((rd_T121 l0 x9_1).f0)
                ·rw [if_pos c22] at H
                 have c22b0 : (((rd_T121 l0 (ji19)).f0) == ((rd_T121 l0 x9_1).f0)) = true := beq_iff_eq.mpr c22
                 have c22b1 : (((rd_T121 l0 (ji19)).f0) != ((rd_T121 l0 x9_1).f0)) = false := bne_eq_false_iff_eq.mpr c22
                 clear c22
                 obtain rfl := Option.some.inj H
                 have p464 : 0 ≤ ((ji19) : Int) := of_decide_eq_true (by assumption)
                 have q464 : (ji19) < (l0.length : Int) := of_decide_eq_true (by assumption)
                 obtain ⟨ad464, e464, hx464_0, hx464_1⟩ := at_T121 HR0.out (ji19) p464 q464
                 obtain rfl : ad462 = ad464 := (by injection e464)
                 replace hx464_0 := (HB.out.cell (World.block_lt_of_cell? w _ hx464_0)).trans hx464_0
                 replace hx464_1 := (HB.out.cell (World.block_lt_of_cell? w _ hx464_1)).trans hx464_1
                 replace p464 := eq_true p464
                 replace q464 := eq_true q464
                 have hcz23_0 : wc.cell? ⟨gb463, 0, none⟩ = some (.int .i64 ((rd_T121 l0 x9_1).f0)) := (blk_cell BK463.out 0).trans rfl
                 have hcz23_1 : wc.cell? ⟨gb463, 1, none⟩ = some (.int .i64 ((rd_T121 l0 x9_1).f1)) := (blk_cell BK463.out 1).trans rfl
                 have hfz23_0 := blk_frozen BK463.out 0
                 have hfz23_1 := blk_frozen BK463.out 1
                 go_wp2
                 repeat (go_quiet (fail); try go_wp2)
                 go_ret
                 exact ⟨by first | rfl | (simp [errW_none, errW_some] <;> rfl) | (simp only [← hji19]; first | rfl | (simp [errW_none, errW_some] <;> rfl)) | (simp [*, errW_none, errW_some] <;> rfl), by repeat (first | (with_reducible first | exact HB.out | apply below_alloc | apply pw_below_drewN | apply below_drew1 | refine below_set ?_ GE463.out) | exact HB.out)⟩
                ·rw [if_neg c22] at H
                 have c22b0 : (((rd_T121 l0 (ji19)).f0) == ((rd_T121 l0 x9_1).f0)) = false := beq_eq_false_iff_ne.mpr c22
                 have c22b1 : (((rd_T121 l0 (ji19)).f0) != ((rd_T121 l0 x9_1).f0)) = true := bne_iff_ne.mpr c22
                 by_cases c24 : ((rd_T121 l0 (ji19)).f0) = 2
                 ·rw [if_pos c24] at H
                  have c24b0 : (((rd_T121 l0 (ji19)).f0) == 2) = true := beq_iff_eq.mpr c24
                  have c24b1 : (((rd_T121 l0 (ji19)).f0) != 2) = false := bne_eq_false_iff_eq.mpr c24
                  clear c24
                  by_cases c25 : ((rd_T121 l0 x9_1).f0) = 1
                  ·rw [if_pos c25] at H
                   have c25b0 : (((rd_T121 l0 x9_1).f0) == 1) = true := beq_iff_eq.mpr c25
                   have c25b1 : (((rd_T121 l0 x9_1).f0) != 1) = false := bne_eq_false_iff_eq.mpr c25
                   clear c25
                   obtain rfl := Option.some.inj H
                   have p464 : 0 ≤ ((ji19) : Int) := of_decide_eq_true (by assumption)
                   have q464 : (ji19) < (l0.length : Int) := of_decide_eq_true (by assumption)
                   obtain ⟨ad464, e464, hx464_0, hx464_1⟩ := at_T121 HR0.out (ji19) p464 q464
                   obtain rfl : ad462 = ad464 := (by injection e464)
                   replace hx464_0 := (HB.out.cell (World.block_lt_of_cell? w _ hx464_0)).trans hx464_0
                   replace hx464_1 := (HB.out.cell (World.block_lt_of_cell? w _ hx464_1)).trans hx464_1
                   replace p464 := eq_true p464
                   replace q464 := eq_true q464
                   have hcz26_0 : wc.cell? ⟨gb463, 0, none⟩ = some (.int .i64 ((rd_T121 l0 x9_1).f0)) := (blk_cell BK463.out 0).trans rfl
                   have hcz26_1 : wc.cell? ⟨gb463, 1, none⟩ = some (.int .i64 ((rd_T121 l0 x9_1).f1)) := (blk_cell BK463.out 1).trans rfl
                   have hfz26_0 := blk_frozen BK463.out 0
                   have hfz26_1 := blk_frozen BK463.out 1
                   have p465 : 0 ≤ ((ji19) : Int) := of_decide_eq_true (by assumption)
                   have q465 : (ji19) < (l0.length : Int) := of_decide_eq_true (by assumption)
                   obtain ⟨ad465, e465, hx465_0, hx465_1⟩ := at_T121 HR0.out (ji19) p465 q465
                   obtain rfl : ad462 = ad465 := (by injection e465)
                   replace hx465_0 := (HB.out.cell (World.block_lt_of_cell? w _ hx465_0)).trans hx465_0
                   replace hx465_1 := (HB.out.cell (World.block_lt_of_cell? w _ hx465_1)).trans hx465_1
                   replace p465 := eq_true p465
                   replace q465 := eq_true q465
                   go_wp2
                   repeat (go_quiet (fail); try go_wp2)
                   go_ret
                   exact ⟨by first | rfl | (simp [errW_none, errW_some] <;> rfl) | (simp only [← hji19]; first | rfl | (simp [errW_none, errW_some] <;> rfl)) | (simp [*, errW_none, errW_some] <;> rfl), by repeat (first | (with_reducible first | exact HB.out | apply below_alloc | apply pw_below_drewN | apply below_drew1 | refine below_set ?_ GE463.out) | exact HB.out)⟩
                  ·rw [if_neg c25] at H
                   have c25b0 : (((rd_T121 l0 x9_1).f0) == 1) = false := beq_eq_false_iff_ne.mpr c25
                   have c25b1 : (((rd_T121 l0 x9_1).f0) != 1) = true := bne_iff_ne.mpr c25
                   have H' := Aside0.mk H
                   clear H
                   have p464 : 0 ≤ ((ji19) : Int) := of_decide_eq_true (by assumption)
                   have q464 : (ji19) < (l0.length : Int) := of_decide_eq_true (by assumption)
                   obtain ⟨ad464, e464, hx464_0, hx464_1⟩ := at_T121 HR0.out (ji19) p464 q464
                   obtain rfl : ad462 = ad464 := (by injection e464)
                   replace hx464_0 := (HB.out.cell (World.block_lt_of_cell? w _ hx464_0)).trans hx464_0
                   replace hx464_1 := (HB.out.cell (World.block_lt_of_cell? w _ hx464_1)).trans hx464_1
                   replace p464 := eq_true p464
                   replace q464 := eq_true q464
                   have hcz27_0 : wc.cell? ⟨gb463, 0, none⟩ = some (.int .i64 ((rd_T121 l0 x9_1).f0)) := (blk_cell BK463.out 0).trans rfl
                   have hcz27_1 : wc.cell? ⟨gb463, 1, none⟩ = some (.int .i64 ((rd_T121 l0 x9_1).f1)) := (blk_cell BK463.out 1).trans rfl
                   have hfz27_0 := blk_frozen BK463.out 0
                   have hfz27_1 := blk_frozen BK463.out 1
                   have p465 : 0 ≤ ((ji19) : Int) := of_decide_eq_true (by assumption)
                   have q465 : (ji19) < (l0.length : Int) := of_decide_eq_true (by assumption)
                   obtain ⟨ad465, e465, hx465_0, hx465_1⟩ := at_T121 HR0.out (ji19) p465 q465
                   obtain rfl : ad462 = ad465 := (by injection e465)
                   replace hx465_0 := (HB.out.cell (World.block_lt_of_cell? w _ hx465_0)).trans hx465_0
                   replace hx465_1 := (HB.out.cell (World.block_lt_of_cell? w _ hx465_1)).trans hx465_1
                   replace p465 := eq_true p465
                   replace q465 := eq_true q465
                   go_wp2
                   repeat (go_quiet (fail); try go_wp2)
                   go_meet
                   case rel => exact ⟨_, H', ⟨by have := HK1.out; have := HJ7.out; have := HJ12.out; first | omega | exact Nat.le_refl _⟩, ⟨by (with_reducible repeat (first | refine blk_drewN ?_ _ | refine blk_drew ?_ | refine blk_alloc ?_ _)); exact BK463.out⟩, ⟨by repeat (first | (with_reducible first | exact HB.out | apply below_alloc | apply pw_below_drewN | apply below_drew1 | refine below_set ?_ GE463.out) | exact HB.out)⟩⟩
                 ·rw [if_neg c24] at H
                  have c24b0 : (((rd_T121 l0 (ji19)).f0) == 2) = false := beq_eq_false_iff_ne.mpr c24
                  have c24b1 : (((rd_T121 l0 (ji19)).f0) != 2) = true := bne_iff_ne.mpr c24
                  have H' := Aside0.mk H
                  clear H
                  have p464 : 0 ≤ ((ji19) : Int) := of_decide_eq_true (by assumption)
                  have q464 : (ji19) < (l0.length : Int) := of_decide_eq_true (by assumption)
                  obtain ⟨ad464, e464, hx464_0, hx464_1⟩ := at_T121 HR0.out (ji19) p464 q464
                  obtain rfl : ad462 = ad464 := (by injection e464)
                  replace hx464_0 := (HB.out.cell (World.block_lt_of_cell? w _ hx464_0)).trans hx464_0
                  replace hx464_1 := (HB.out.cell (World.block_lt_of_cell? w _ hx464_1)).trans hx464_1
                  replace p464 := eq_true p464
                  replace q464 := eq_true q464
                  have hcz28_0 : wc.cell? ⟨gb463, 0, none⟩ = some (.int .i64 ((rd_T121 l0 x9_1).f0)) := (blk_cell BK463.out 0).trans rfl
                  have hcz28_1 : wc.cell? ⟨gb463, 1, none⟩ = some (.int .i64 ((rd_T121 l0 x9_1).f1)) := (blk_cell BK463.out 1).trans rfl
                  have hfz28_0 := blk_frozen BK463.out 0
                  have hfz28_1 := blk_frozen BK463.out 1
                  have p465 : 0 ≤ ((ji19) : Int) := of_decide_eq_true (by assumption)
                  have q465 : (ji19) < (l0.length : Int) := of_decide_eq_true (by assumption)
                  obtain ⟨ad465, e465, hx465_0, hx465_1⟩ := at_T121 HR0.out (ji19) p465 q465
                  obtain rfl : ad462 = ad465 := (by injection e465)
                  replace hx465_0 := (HB.out.cell (World.block_lt_of_cell? w _ hx465_0)).trans hx465_0
                  replace hx465_1 := (HB.out.cell (World.block_lt_of_cell? w _ hx465_1)).trans hx465_1
                  replace p465 := eq_true p465
                  replace q465 := eq_true q465
                  go_wp2
                  repeat (go_quiet (fail); try go_wp2)
                  go_meet
                  case rel => exact ⟨_, H', ⟨by have := HK1.out; have := HJ7.out; have := HJ12.out; first | omega | exact Nat.le_refl _⟩, ⟨by (with_reducible repeat (first | refine blk_drewN ?_ _ | refine blk_drew ?_ | refine blk_alloc ?_ _)); exact BK463.out⟩, ⟨by repeat (first | (with_reducible first | exact HB.out | apply below_alloc | apply pw_below_drewN | apply below_drew1 | refine below_set ?_ GE463.out) | exact HB.out)⟩⟩
               ·rw [if_neg c21] at H
                exact absurd H (by simp)
              ·rw [if_neg c20] at H
               exact absurd H (by simp)
             ·rw [if_neg c18] at H
              have c18b0 : decide (0 < x9_1) = false := decide_eq_false c18
              clear c18
              have H' := Aside0.mk H
              clear H
              go_wp2
              repeat (go_quiet (fail); try go_wp2)
              go_meet
              case rel => exact ⟨_, H', ⟨by have := HK1.out; have := HJ7.out; have := HJ12.out; first | omega | exact Nat.le_refl _⟩, ⟨by (with_reducible repeat (first | refine blk_drewN ?_ _ | refine blk_drew ?_ | refine blk_alloc ?_ _)); exact BK463.out⟩, ⟨by repeat (first | (with_reducible first | exact HB.out | apply below_alloc | apply pw_below_drewN | apply below_drew1 | refine below_set ?_ GE463.out) | exact HB.out)⟩⟩
      case rest =>
       clear HC5
       try clear c1
       try clear c2
       try clear c2b0
       try clear p2
       try clear c3
       try clear c3b0
       try clear c4
       try clear c4b0
       try clear p4
       try clear q4
       try clear hx4
       try clear c6
       try clear p6
       try clear c9
       try clear c9b0
       try clear c12
       try clear c14
       try clear c14b0
       try clear c17
       try clear c18
       try clear c18b0
       try clear c20
       try clear c20b0
       try clear c21
       try clear c21b0
       try clear c22
       try clear c22b0
       try clear c22b1
       try clear c24
       try clear c24b0
       try clear c24b1
       try clear c25
       try clear c25b0
       try clear c25b1
       try clear hcz10_0
       try clear hcz10_1
       try clear hcz11_0
       try clear hcz11_1
       try clear hcz15_0
       try clear hcz15_1
       try clear hcz16_0
       try clear hcz16_1
       try clear hcz23_0
       try clear hcz23_1
       try clear hcz26_0
       try clear hcz26_1
       try clear hcz27_0
       try clear hcz27_1
       try clear hcz28_0
       try clear hcz28_1
       try clear hcz7_0
       try clear hcz7_1
       try clear hfz10_0
       try clear hfz10_1
       try clear hfz11_0
       try clear hfz11_1
       try clear hfz15_0
       try clear hfz15_1
       try clear hfz16_0
       try clear hfz16_1
       try clear hfz23_0
       try clear hfz23_1
       try clear hfz26_0
       try clear hfz26_1
       try clear hfz27_0
       try clear hfz27_1
       try clear hfz28_0
       try clear hfz28_1
       try clear hfz7_0
       try clear hfz7_1
       try clear hx462_0
       try clear hx462_1
       try clear hx464_0
       try clear hx464_1
       try clear hx465_0
       try clear hx465_1
       try clear p2
       try clear p4
       try clear p462
       try clear p464
       try clear p465
       try clear q4
       try clear q462
       try clear q464
       try clear q465
       obtain ⟨kq, HA, HJ4, BK463, HB⟩ := hcut
       cases kq with
       | zero => exact absurd HA.out (by simp [axis_Check.j3])
       | succ kj4 =>
        have H := HA.out
        clear HA
        simp only [axis_Check.j3] at H
        by_cases c29 : ((rd_T121 l0 x9_1).f0) = 1
        ·rw [if_pos c29] at H
         have c29b0 : (((rd_T121 l0 x9_1).f0) == 1) = true := beq_iff_eq.mpr c29
         have c29b1 : (((rd_T121 l0 x9_1).f0) != 1) = false := bne_eq_false_iff_eq.mpr c29
         clear c29
         by_cases c30 : ((rd_T121 l0 x9_1).f0) = 2
         ·rw [if_pos c30] at H
          have c30b0 : (((rd_T121 l0 x9_1).f0) == 2) = true := beq_iff_eq.mpr c30
          have c30b1 : (((rd_T121 l0 x9_1).f0) != 2) = false := bne_eq_false_iff_eq.mpr c30
          clear c30
          have H' := Aside0.mk H
          clear H
          have hcz31_0 : wc.cell? ⟨gb463, 0, none⟩ = some (.int .i64 ((rd_T121 l0 x9_1).f0)) := (blk_cell BK463.out 0).trans rfl
          have hcz31_1 : wc.cell? ⟨gb463, 1, none⟩ = some (.int .i64 ((rd_T121 l0 x9_1).f1)) := (blk_cell BK463.out 1).trans rfl
          have hfz31_0 := blk_frozen BK463.out 0
          have hfz31_1 := blk_frozen BK463.out 1
          go_wp2
          repeat (go_quiet (fail); try go_wp2)
          go_roundg kj4
          case measure => have := HK1.out; have := HJ4.out; omega
          case rel => exact ⟨(x3_1), (x4_1), (wrap64 (x9_1 + 1)), (by first | rfl | (simp; done) | (simp [*]; done)), (by first | rfl | (simp; done) | (simp [*]; done)), (by first | rfl | (simp; done) | (simp [*]; done)), H', ⟨by have := HK1.out; have := HJ4.out; omega⟩, ⟨by repeat (first | (with_reducible first | exact HB.out | apply below_alloc | apply pw_below_drewN | apply below_drew1 | refine below_set ?_ GE463.out) | exact HB.out)⟩⟩
         ·rw [if_neg c30] at H
          have c30b0 : (((rd_T121 l0 x9_1).f0) == 2) = false := beq_eq_false_iff_ne.mpr c30
          have c30b1 : (((rd_T121 l0 x9_1).f0) != 2) = true := bne_iff_ne.mpr c30
          obtain ⟨ji32, hji32⟩ : ∃ j_ : Int, (mn (wrap64 (x4_1 + ((rd_T121 l0 x9_1).f1))) 2147483648) = j_ := ⟨_, rfl⟩
          replace H : (axis_Check.l0 kj4 l0 x3_1 ji32 l0 (l0.length : Int) (wrap64 (x9_1 + 1))) = some r := by first | (rw [hji32] at H; exact H) | (simp only [hji32] at H ⊢; exact H)
          have hji32_ : (if 2147483648 < (wrap64 (x4_1 + ((rd_T121 l0 x9_1).f1))) then 2147483648 else (wrap64 (x4_1 + ((rd_T121 l0 x9_1).f1)))) = ji32 := hji32
          have H' := Aside0.mk H
          clear H
          have hcz33_0 : wc.cell? ⟨gb463, 0, none⟩ = some (.int .i64 ((rd_T121 l0 x9_1).f0)) := (blk_cell BK463.out 0).trans rfl
          have hcz33_1 : wc.cell? ⟨gb463, 1, none⟩ = some (.int .i64 ((rd_T121 l0 x9_1).f1)) := (blk_cell BK463.out 1).trans rfl
          have hfz33_0 := blk_frozen BK463.out 0
          have hfz33_1 := blk_frozen BK463.out 1
          go_wp2
          repeat (go_quiet (fail); try go_wp2)
          go_roundg kj4
          case measure => have := HK1.out; have := HJ4.out; omega
          case rel => exact ⟨(x3_1), (ji32), (wrap64 (x9_1 + 1)), (by first | rfl | (simp; done) | (simp [*]; done)), (by first | rfl | (simp; done) | (simp only [← hji32] <;> (first | rfl | simp)) | (simp [*]; done)), (by first | rfl | (simp; done) | (simp [*]; done)), H', ⟨by have := HK1.out; have := HJ4.out; omega⟩, ⟨by repeat (first | (with_reducible first | exact HB.out | apply below_alloc | apply pw_below_drewN | apply below_drew1 | refine below_set ?_ GE463.out) | exact HB.out)⟩⟩
        ·rw [if_neg c29] at H
         have c29b0 : (((rd_T121 l0 x9_1).f0) == 1) = false := beq_eq_false_iff_ne.mpr c29
         have c29b1 : (((rd_T121 l0 x9_1).f0) != 1) = true := bne_iff_ne.mpr c29
         obtain ⟨ji34, hji34⟩ : ∃ j_ : Int, (mn (wrap64 (x3_1 + ((rd_T121 l0 x9_1).f1))) 2147483648) = j_ := ⟨_, rfl⟩
         replace H : (if ((rd_T121 l0 x9_1).f0) = 2 then (axis_Check.l0 kj4 l0 ji34 x4_1 l0 (l0.length : Int) (wrap64 (x9_1 + 1))) else (axis_Check.l0 kj4 l0 ji34 (mn (wrap64 (x4_1 + ((rd_T121 l0 x9_1).f1))) 2147483648) l0 (l0.length : Int) (wrap64 (x9_1 + 1)))) = some r := by first | (rw [hji34] at H; exact H) | (simp only [hji34] at H ⊢; exact H)
         have hji34_ : (if 2147483648 < (wrap64 (x3_1 + ((rd_T121 l0 x9_1).f1))) then 2147483648 else (wrap64 (x3_1 + ((rd_T121 l0 x9_1).f1)))) = ji34 := hji34
         by_cases c35 : ((rd_T121 l0 x9_1).f0) = 2
         ·rw [if_pos c35] at H
          have c35b0 : (((rd_T121 l0 x9_1).f0) == 2) = true := beq_iff_eq.mpr c35
          have c35b1 : (((rd_T121 l0 x9_1).f0) != 2) = false := bne_eq_false_iff_eq.mpr c35
          clear c35
          have H' := Aside0.mk H
          clear H
          have hcz36_0 : wc.cell? ⟨gb463, 0, none⟩ = some (.int .i64 ((rd_T121 l0 x9_1).f0)) := (blk_cell BK463.out 0).trans rfl
          have hcz36_1 : wc.cell? ⟨gb463, 1, none⟩ = some (.int .i64 ((rd_T121 l0 x9_1).f1)) := (blk_cell BK463.out 1).trans rfl
          have hfz36_0 := blk_frozen BK463.out 0
          have hfz36_1 := blk_frozen BK463.out 1
          go_wp2
          repeat (go_quiet (fail); try go_wp2)
          go_roundg kj4
          case measure => have := HK1.out; have := HJ4.out; omega
          case rel => exact ⟨(ji34), (x4_1), (wrap64 (x9_1 + 1)), (by first | rfl | (simp; done) | (simp only [← hji34] <;> (first | rfl | simp)) | (simp [*]; done)), (by first | rfl | (simp; done) | (simp [*]; done)), (by first | rfl | (simp; done) | (simp [*]; done)), H', ⟨by have := HK1.out; have := HJ4.out; omega⟩, ⟨by repeat (first | (with_reducible first | exact HB.out | apply below_alloc | apply pw_below_drewN | apply below_drew1 | refine below_set ?_ GE463.out) | exact HB.out)⟩⟩
         ·rw [if_neg c35] at H
          have c35b0 : (((rd_T121 l0 x9_1).f0) == 2) = false := beq_eq_false_iff_ne.mpr c35
          have c35b1 : (((rd_T121 l0 x9_1).f0) != 2) = true := bne_iff_ne.mpr c35
          obtain ⟨ji37, hji37⟩ : ∃ j_ : Int, (mn (wrap64 (x4_1 + ((rd_T121 l0 x9_1).f1))) 2147483648) = j_ := ⟨_, rfl⟩
          replace H : (axis_Check.l0 kj4 l0 ji34 ji37 l0 (l0.length : Int) (wrap64 (x9_1 + 1))) = some r := by first | (rw [hji37] at H; exact H) | (simp only [hji37] at H ⊢; exact H)
          have hji37_ : (if 2147483648 < (wrap64 (x4_1 + ((rd_T121 l0 x9_1).f1))) then 2147483648 else (wrap64 (x4_1 + ((rd_T121 l0 x9_1).f1)))) = ji37 := hji37
          have H' := Aside0.mk H
          clear H
          have hcz38_0 : wc.cell? ⟨gb463, 0, none⟩ = some (.int .i64 ((rd_T121 l0 x9_1).f0)) := (blk_cell BK463.out 0).trans rfl
          have hcz38_1 : wc.cell? ⟨gb463, 1, none⟩ = some (.int .i64 ((rd_T121 l0 x9_1).f1)) := (blk_cell BK463.out 1).trans rfl
          have hfz38_0 := blk_frozen BK463.out 0
          have hfz38_1 := blk_frozen BK463.out 1
          go_wp2
          repeat (go_quiet (fail); try go_wp2)
          go_roundg kj4
          case measure => have := HK1.out; have := HJ4.out; omega
          case rel => exact ⟨(ji34), (ji37), (wrap64 (x9_1 + 1)), (by first | rfl | (simp; done) | (simp only [← hji34] <;> (first | rfl | simp)) | (simp [*]; done)), (by first | rfl | (simp; done) | (simp only [← hji37] <;> (first | rfl | simp)) | (simp [*]; done)), (by first | rfl | (simp; done) | (simp [*]; done)), H', ⟨by have := HK1.out; have := HJ4.out; omega⟩, ⟨by repeat (first | (with_reducible first | exact HB.out | apply below_alloc | apply pw_below_drewN | apply below_drew1 | refine below_set ?_ GE463.out) | exact HB.out)⟩⟩
     ·rw [if_neg c4] at H
      exact absurd H (by simp)
    ·rw [if_neg c3] at H
     exact absurd H (by simp)
   ·rw [if_neg c2] at H
    have c2b0 : decide (x9_1 < (l0.length : Int)) = false := decide_eq_false c2
    clear c2
    by_cases c39 : x3_1 > 2147483647
    ·rw [if_pos c39] at H
     have c39b0 : decide (2147483647 < x3_1) = true := decide_eq_true c39
     clear c39
     obtain rfl := Option.some.inj H
     go_wp2
     repeat (go_quiet (fail); try go_wp2)
     go_ret
     exact ⟨by first | rfl | (simp [errW_none, errW_some] <;> rfl) | (simp [*, errW_none, errW_some] <;> rfl), by repeat (first | (with_reducible first | exact HB.out | apply below_alloc | apply pw_below_drewN | apply below_drew1) | exact HB.out)⟩
    ·rw [if_neg c39] at H
     have c39b0 : decide (2147483647 < x3_1) = false := decide_eq_false c39
     clear c39
     by_cases c40 : x4_1 > 2147483647
     ·rw [if_pos c40] at H
      have c40b0 : decide (2147483647 < x4_1) = true := decide_eq_true c40
      clear c40
      obtain rfl := Option.some.inj H
      go_wp2
      repeat (go_quiet (fail); try go_wp2)
      go_ret
      exact ⟨by first | rfl | (simp [errW_none, errW_some] <;> rfl) | (simp [*, errW_none, errW_some] <;> rfl), by repeat (first | (with_reducible first | exact HB.out | apply below_alloc | apply pw_below_drewN | apply below_drew1) | exact HB.out)⟩
     ·rw [if_neg c40] at H
      have c40b0 : decide (2147483647 < x4_1) = false := decide_eq_false c40
      clear c40
      obtain rfl := Option.some.inj H
      go_wp2
      repeat (go_quiet (fail); try go_wp2)
      go_ret
      exact ⟨by first | rfl | (simp [errW_none, errW_some] <;> rfl) | (simp [*, errW_none, errW_some] <;> rfl), by repeat (first | (with_reducible first | exact HB.out | apply below_alloc | apply pw_below_drewN | apply below_drew1) | exact HB.out)⟩
def axis_lengths.l0 : Nat → Int → Int → List (S121) → Int → Int → Option (Int × Int)
 | 0, _, _, _, _, _ => none
 | k + 1, x4, x5, x8, x9, x10 => if x10 < x9 then (if 0 ≤ x10 then (if x10 < (x8.length : Int) then (if ((rd_T121 x8 x10).f0) = 1 then (if ((rd_T121 x8 x10).f0) = 2 then (axis_lengths.l0 k x4 x5 x8 x9 (wrap64 (x10 + 1))) else (axis_lengths.l0 k x4 (wrap64 (x5 + ((rd_T121 x8 x10).f1))) x8 x9 (wrap64 (x10 + 1)))) else (if ((rd_T121 x8 x10).f0) = 2 then (axis_lengths.l0 k (wrap64 (x4 + ((rd_T121 x8 x10).f1))) x5 x8 x9 (wrap64 (x10 + 1))) else (axis_lengths.l0 k (wrap64 (x4 + ((rd_T121 x8 x10).f1))) (wrap64 (x5 + ((rd_T121 x8 x10).f1))) x8 x9 (wrap64 (x10 + 1))))) else (none)) else (none)) else (some (x4, x5))
def axis_lengths.f (k : Nat) (l0 : List (S121)) : Option (Int × Int) := axis_lengths.l0 k 0 0 l0 (l0.length : Int) 0
theorem axis_lengths.mono_l : ∀ k, (∀ y0 y1 y2 y3 y4, LeO (axis_lengths.l0 k y0 y1 y2 y3 y4) (axis_lengths.l0 (k + 1) y0 y1 y2 y3 y4))
 | 0 => fun _ _ _ _ _ r h => by simp [axis_lengths.l0] at h
 | k + 1 => by
  have ih0 := axis_lengths.mono_l k
  ·intro y0 y1 y2 y3 y4
   unfold axis_lengths.l0
   repeat' first
   | (with_reducible exact ih0 _ _ _ _ _)
   | (with_reducible exact LeO.refl _)
   | (with_reducible exact LeO.none _)
   | (with_reducible refine LeO.ite ?_ ?_)
   | (with_reducible refine LeO.bind ?_ (fun _ => ?_))
   | exact ih0 _ _ _ _ _
   | exact LeO.none _
   | refine LeO.ite ?_ ?_
   | refine LeO.bind ?_ (fun _ => ?_)
theorem axis_lengths.mono : ∀ a0 k, LeO (axis_lengths.f k a0) (axis_lengths.f (k + 1) a0) := by
 intro a0 k
 have ih0 := axis_lengths.mono_l k
 unfold axis_lengths.f
 repeat' first
   | (with_reducible exact ih0 _ _ _ _ _)
   | (with_reducible exact LeO.refl _)
   | (with_reducible exact LeO.none _)
   | (with_reducible refine LeO.ite ?_ ?_)
   | (with_reducible refine LeO.bind ?_ (fun _ => ?_))
   | exact ih0 _ _ _ _ _
   | exact LeO.none _
   | refine LeO.ite ?_ ?_
   | refine LeO.bind ?_ (fun _ => ?_)
set_option maxHeartbeats 8000000 in
set_option maxRecDepth 100000 in
theorem axis_lengths.calls (k : Nat) (A0 : Option Addr) (c0 : Nat) (l0 : List (S121)) (r1 : Int) (r2 : Int) (w : World) (hr0 : Kd.C k121 w A0 l0.length l0) (hc0 : l0.length ≤ c0) (h : axis_lengths.f k l0 = some (r1, r2)) :
  Calls Try.prog 70 #[.slice A0 l0.length c0] w fun e w' => e = .returned (.tuple #[.int .i64 r1, .int .i64 r2]) ∧ Below w.heap.size w w' := by
 have hu121 := Try.underlying121
 have HR0 := Aside0.mk hr0
 have HC0 := Aside0.mk hc0
 clear hr0 hc0
 have HB := Aside0.mk (Below.refl w.heap.size w)
 have H : (axis_lengths.l0 k 0 0 l0 (l0.length : Int) 0) = some (r1, r2) := h
 clear h
 have H' := Aside0.mk H
 clear H
 go_enter Try.func70, Try.ntmps70
 go_wp2
 go_loopg [4, 5, 10] k (fun kq v4 v5 v10 w' => ∃ (x4_1 : Int) (x5_1 : Int) (x10_1 : Int), v4 = .int .i64 x4_1 ∧ v5 = .int .i64 x5_1 ∧ v10 = .int .i64 x10_1 ∧ Aside0 (axis_lengths.l0 kq x4_1 x5_1 l0 (l0.length : Int) x10_1 = some (r1, r2)) ∧ Aside0 (kq ≤ k) ∧ Aside0 (Below w.heap.size w w'))
 case atStart => exact ⟨(0), (0), (0), (by first | rfl | (simp; done) | (simp [*]; done)), (by first | rfl | (simp; done) | (simp [*]; done)), (by first | rfl | (simp; done) | (simp [*]; done)), H', ⟨Nat.le_refl _⟩, ⟨by repeat (first | (with_reducible first | exact HB.out | apply below_alloc | apply pw_below_drewN | apply below_drew1) | exact HB.out)⟩⟩
 case round =>
  clear H'
  obtain ⟨x4_1, x5_1, x10_1, rfl, rfl, rfl, HA, HK1, HB⟩ := hrel
  cases gk with
  | zero => exact absurd HA.out (by simp [axis_lengths.l0])
  | succ k1 =>
   have H := HA.out
   clear HA
   simp only [axis_lengths.l0] at H
   by_cases c2 : x10_1 < (l0.length : Int)
   ·rw [if_pos c2] at H
    have c2b0 : decide (x10_1 < (l0.length : Int)) = true := decide_eq_true c2
    clear c2
    by_cases c3 : 0 ≤ x10_1
    ·rw [if_pos c3] at H
     have c3b0 : decide (0 ≤ x10_1) = true := decide_eq_true c3
     clear c3
     by_cases c4 : x10_1 < (l0.length : Int)
     ·rw [if_pos c4] at H
      have c4b0 : decide (x10_1 < (l0.length : Int)) = true := decide_eq_true c4
      clear c4
      by_cases c5 : ((rd_T121 l0 x10_1).f0) = 1
      ·rw [if_pos c5] at H
       have c5b0 : (((rd_T121 l0 x10_1).f0) == 1) = true := beq_iff_eq.mpr c5
       have c5b1 : (((rd_T121 l0 x10_1).f0) != 1) = false := bne_eq_false_iff_eq.mpr c5
       clear c5
       by_cases c6 : ((rd_T121 l0 x10_1).f0) = 2
       ·rw [if_pos c6] at H
        have c6b0 : (((rd_T121 l0 x10_1).f0) == 2) = true := beq_iff_eq.mpr c6
        have c6b1 : (((rd_T121 l0 x10_1).f0) != 2) = false := bne_eq_false_iff_eq.mpr c6
        clear c6
        have H' := Aside0.mk H
        clear H
        have p466 : 0 ≤ (x10_1 : Int) := of_decide_eq_true (by assumption)
        have q466 : x10_1 < (l0.length : Int) := of_decide_eq_true (by assumption)
        obtain ⟨ad466, e466, hx466_0, hx466_1⟩ := at_T121 HR0.out x10_1 p466 q466
        cases e466
        replace hx466_0 := (HB.out.cell (World.block_lt_of_cell? w _ hx466_0)).trans hx466_0
        replace hx466_1 := (HB.out.cell (World.block_lt_of_cell? w _ hx466_1)).trans hx466_1
        replace p466 := eq_true p466
        replace q466 := eq_true q466
        go_wp2_with (first | ((with_reducible refine gate_dst (N := 7) rfl ?_); refine box_event ?hg (N := 7) ?hd (cs := #[.int .i64 0, .int .i64 0]) (t := 121) ?hr ?_; (case hd => rfl); (case hg => rfl); (case hr => first | (go_simp; done) | (go_simp; rfl)); intro gb467 hg w7 hbox hb; have n0_ := Aside0.mk (below_step (by with_reducible repeat first | exact HB.out | apply below_alloc | apply pw_below_drewN | apply below_drew1) hb); have n1_ := Aside0.mk (hbox); have n2_ := Aside0.mk ((by rw [hg]; exact (below_size (by with_reducible repeat first | exact HB.out | apply below_alloc | apply pw_below_drewN | apply below_drew1)) : w.heap.size ≤ gb467)); have n3_ := Aside0.mk ((by rw [hg]; exact (below_size (by with_reducible repeat first | exact HB.out | apply below_alloc | apply pw_below_drewN | apply below_drew1)) : w.heap.size ≤ gb467)); clear HB; have HB := n0_; have BK467 := n1_; have GW467 := n2_; have GE467 := n3_; clear n0_ n1_ n2_ n3_; clear hb hbox hg; have hcz8_0 : w7.cell? ⟨gb467, 0, none⟩ = some (.int .i64 0) := (blk_cell BK467.out 0).trans rfl; have hcz8_1 : w7.cell? ⟨gb467, 1, none⟩ = some (.int .i64 0) := (blk_cell BK467.out 1).trans rfl; have hfz8_0 := blk_frozen BK467.out 0; have hfz8_1 := blk_frozen BK467.out 1))
        go_roundg k1
        case measure => have := HK1.out; omega
        case rel => exact ⟨(x4_1), (x5_1), (wrap64 (x10_1 + 1)), (by first | rfl | (simp; done) | (simp [*]; done)), (by first | rfl | (simp; done) | (simp [*]; done)), (by first | rfl | (simp; done) | (simp [*]; done)), H', ⟨by have := HK1.out; omega⟩, ⟨by repeat (first | (with_reducible first | exact HB.out | apply below_alloc | apply pw_below_drewN | apply below_drew1 | refine below_set ?_ GE467.out) | exact HB.out)⟩⟩
       ·rw [if_neg c6] at H
        have c6b0 : (((rd_T121 l0 x10_1).f0) == 2) = false := beq_eq_false_iff_ne.mpr c6
        have c6b1 : (((rd_T121 l0 x10_1).f0) != 2) = true := bne_iff_ne.mpr c6
        have H' := Aside0.mk H
        clear H
        have p466 : 0 ≤ (x10_1 : Int) := of_decide_eq_true (by assumption)
        have q466 : x10_1 < (l0.length : Int) := of_decide_eq_true (by assumption)
        obtain ⟨ad466, e466, hx466_0, hx466_1⟩ := at_T121 HR0.out x10_1 p466 q466
        cases e466
        replace hx466_0 := (HB.out.cell (World.block_lt_of_cell? w _ hx466_0)).trans hx466_0
        replace hx466_1 := (HB.out.cell (World.block_lt_of_cell? w _ hx466_1)).trans hx466_1
        replace p466 := eq_true p466
        replace q466 := eq_true q466
        go_wp2_with (first | ((with_reducible refine gate_dst (N := 7) rfl ?_); refine box_event ?hg (N := 7) ?hd (cs := #[.int .i64 0, .int .i64 0]) (t := 121) ?hr ?_; (case hd => rfl); (case hg => rfl); (case hr => first | (go_simp; done) | (go_simp; rfl)); intro gb467 hg w9 hbox hb; have n0_ := Aside0.mk (below_step (by with_reducible repeat first | exact HB.out | apply below_alloc | apply pw_below_drewN | apply below_drew1) hb); have n1_ := Aside0.mk (hbox); have n2_ := Aside0.mk ((by rw [hg]; exact (below_size (by with_reducible repeat first | exact HB.out | apply below_alloc | apply pw_below_drewN | apply below_drew1)) : w.heap.size ≤ gb467)); have n3_ := Aside0.mk ((by rw [hg]; exact (below_size (by with_reducible repeat first | exact HB.out | apply below_alloc | apply pw_below_drewN | apply below_drew1)) : w.heap.size ≤ gb467)); clear HB; have HB := n0_; have BK467 := n1_; have GW467 := n2_; have GE467 := n3_; clear n0_ n1_ n2_ n3_; clear hb hbox hg; have hcz10_0 : w9.cell? ⟨gb467, 0, none⟩ = some (.int .i64 0) := (blk_cell BK467.out 0).trans rfl; have hcz10_1 : w9.cell? ⟨gb467, 1, none⟩ = some (.int .i64 0) := (blk_cell BK467.out 1).trans rfl; have hfz10_0 := blk_frozen BK467.out 0; have hfz10_1 := blk_frozen BK467.out 1))
        go_roundg k1
        case measure => have := HK1.out; omega
        case rel => exact ⟨(x4_1), (wrap64 (x5_1 + ((rd_T121 l0 x10_1).f1))), (wrap64 (x10_1 + 1)), (by first | rfl | (simp; done) | (simp [*]; done)), (by first | rfl | (simp; done) | (simp [*]; done)), (by first | rfl | (simp; done) | (simp [*]; done)), H', ⟨by have := HK1.out; omega⟩, ⟨by repeat (first | (with_reducible first | exact HB.out | apply below_alloc | apply pw_below_drewN | apply below_drew1 | refine below_set ?_ GE467.out) | exact HB.out)⟩⟩
      ·rw [if_neg c5] at H
       have c5b0 : (((rd_T121 l0 x10_1).f0) == 1) = false := beq_eq_false_iff_ne.mpr c5
       have c5b1 : (((rd_T121 l0 x10_1).f0) != 1) = true := bne_iff_ne.mpr c5
       by_cases c11 : ((rd_T121 l0 x10_1).f0) = 2
       ·rw [if_pos c11] at H
        have c11b0 : (((rd_T121 l0 x10_1).f0) == 2) = true := beq_iff_eq.mpr c11
        have c11b1 : (((rd_T121 l0 x10_1).f0) != 2) = false := bne_eq_false_iff_eq.mpr c11
        clear c11
        have H' := Aside0.mk H
        clear H
        have p466 : 0 ≤ (x10_1 : Int) := of_decide_eq_true (by assumption)
        have q466 : x10_1 < (l0.length : Int) := of_decide_eq_true (by assumption)
        obtain ⟨ad466, e466, hx466_0, hx466_1⟩ := at_T121 HR0.out x10_1 p466 q466
        cases e466
        replace hx466_0 := (HB.out.cell (World.block_lt_of_cell? w _ hx466_0)).trans hx466_0
        replace hx466_1 := (HB.out.cell (World.block_lt_of_cell? w _ hx466_1)).trans hx466_1
        replace p466 := eq_true p466
        replace q466 := eq_true q466
        go_wp2_with (first | ((with_reducible refine gate_dst (N := 7) rfl ?_); refine box_event ?hg (N := 7) ?hd (cs := #[.int .i64 0, .int .i64 0]) (t := 121) ?hr ?_; (case hd => rfl); (case hg => rfl); (case hr => first | (go_simp; done) | (go_simp; rfl)); intro gb467 hg w12 hbox hb; have n0_ := Aside0.mk (below_step (by with_reducible repeat first | exact HB.out | apply below_alloc | apply pw_below_drewN | apply below_drew1) hb); have n1_ := Aside0.mk (hbox); have n2_ := Aside0.mk ((by rw [hg]; exact (below_size (by with_reducible repeat first | exact HB.out | apply below_alloc | apply pw_below_drewN | apply below_drew1)) : w.heap.size ≤ gb467)); have n3_ := Aside0.mk ((by rw [hg]; exact (below_size (by with_reducible repeat first | exact HB.out | apply below_alloc | apply pw_below_drewN | apply below_drew1)) : w.heap.size ≤ gb467)); clear HB; have HB := n0_; have BK467 := n1_; have GW467 := n2_; have GE467 := n3_; clear n0_ n1_ n2_ n3_; clear hb hbox hg; have hcz13_0 : w12.cell? ⟨gb467, 0, none⟩ = some (.int .i64 0) := (blk_cell BK467.out 0).trans rfl; have hcz13_1 : w12.cell? ⟨gb467, 1, none⟩ = some (.int .i64 0) := (blk_cell BK467.out 1).trans rfl; have hfz13_0 := blk_frozen BK467.out 0; have hfz13_1 := blk_frozen BK467.out 1))
        go_roundg k1
        case measure => have := HK1.out; omega
        case rel => exact ⟨(wrap64 (x4_1 + ((rd_T121 l0 x10_1).f1))), (x5_1), (wrap64 (x10_1 + 1)), (by first | rfl | (simp; done) | (simp [*]; done)), (by first | rfl | (simp; done) | (simp [*]; done)), (by first | rfl | (simp; done) | (simp [*]; done)), H', ⟨by have := HK1.out; omega⟩, ⟨by repeat (first | (with_reducible first | exact HB.out | apply below_alloc | apply pw_below_drewN | apply below_drew1 | refine below_set ?_ GE467.out) | exact HB.out)⟩⟩
       ·rw [if_neg c11] at H
        have c11b0 : (((rd_T121 l0 x10_1).f0) == 2) = false := beq_eq_false_iff_ne.mpr c11
        have c11b1 : (((rd_T121 l0 x10_1).f0) != 2) = true := bne_iff_ne.mpr c11
        have H' := Aside0.mk H
        clear H
        have p466 : 0 ≤ (x10_1 : Int) := of_decide_eq_true (by assumption)
        have q466 : x10_1 < (l0.length : Int) := of_decide_eq_true (by assumption)
        obtain ⟨ad466, e466, hx466_0, hx466_1⟩ := at_T121 HR0.out x10_1 p466 q466
        cases e466
        replace hx466_0 := (HB.out.cell (World.block_lt_of_cell? w _ hx466_0)).trans hx466_0
        replace hx466_1 := (HB.out.cell (World.block_lt_of_cell? w _ hx466_1)).trans hx466_1
        replace p466 := eq_true p466
        replace q466 := eq_true q466
        go_wp2_with (first | ((with_reducible refine gate_dst (N := 7) rfl ?_); refine box_event ?hg (N := 7) ?hd (cs := #[.int .i64 0, .int .i64 0]) (t := 121) ?hr ?_; (case hd => rfl); (case hg => rfl); (case hr => first | (go_simp; done) | (go_simp; rfl)); intro gb467 hg w14 hbox hb; have n0_ := Aside0.mk (below_step (by with_reducible repeat first | exact HB.out | apply below_alloc | apply pw_below_drewN | apply below_drew1) hb); have n1_ := Aside0.mk (hbox); have n2_ := Aside0.mk ((by rw [hg]; exact (below_size (by with_reducible repeat first | exact HB.out | apply below_alloc | apply pw_below_drewN | apply below_drew1)) : w.heap.size ≤ gb467)); have n3_ := Aside0.mk ((by rw [hg]; exact (below_size (by with_reducible repeat first | exact HB.out | apply below_alloc | apply pw_below_drewN | apply below_drew1)) : w.heap.size ≤ gb467)); clear HB; have HB := n0_; have BK467 := n1_; have GW467 := n2_; have GE467 := n3_; clear n0_ n1_ n2_ n3_; clear hb hbox hg; have hcz15_0 : w14.cell? ⟨gb467, 0, none⟩ = some (.int .i64 0) := (blk_cell BK467.out 0).trans rfl; have hcz15_1 : w14.cell? ⟨gb467, 1, none⟩ = some (.int .i64 0) := (blk_cell BK467.out 1).trans rfl; have hfz15_0 := blk_frozen BK467.out 0; have hfz15_1 := blk_frozen BK467.out 1))
        go_roundg k1
        case measure => have := HK1.out; omega
        case rel => exact ⟨(wrap64 (x4_1 + ((rd_T121 l0 x10_1).f1))), (wrap64 (x5_1 + ((rd_T121 l0 x10_1).f1))), (wrap64 (x10_1 + 1)), (by first | rfl | (simp; done) | (simp [*]; done)), (by first | rfl | (simp; done) | (simp [*]; done)), (by first | rfl | (simp; done) | (simp [*]; done)), H', ⟨by have := HK1.out; omega⟩, ⟨by repeat (first | (with_reducible first | exact HB.out | apply below_alloc | apply pw_below_drewN | apply below_drew1 | refine below_set ?_ GE467.out) | exact HB.out)⟩⟩
     ·rw [if_neg c4] at H
      exact absurd H (by simp)
    ·rw [if_neg c3] at H
     exact absurd H (by simp)
   ·rw [if_neg c2] at H
    have c2b0 : decide (x10_1 < (l0.length : Int)) = false := decide_eq_false c2
    clear c2
    simp only [Option.some.injEq, Prod.mk.injEq] at H
    obtain ⟨rfl, rfl⟩ := H
    go_wp2
    go_ret2
    exact ⟨by first | rfl | (simp [errW_none, errW_some] <;> rfl) | (simp [*, errW_none, errW_some] <;> rfl), by repeat (first | (with_reducible first | exact HB.out | apply below_alloc | apply pw_below_drewN | apply below_drew1) | exact HB.out)⟩
end Go.Proofs.Ytlcodfjlbhjkbaa.PDelta
end
section
namespace Go.Proofs.Ytlcodfjlbhjkbaa.PDelta.Ax
open Go.RowKit Go.Proofs.YtlcodfjlbhjkbaaW.PrintWords Go.Proofs.YtlcodfjlbhjkbaaW.PrintLast Go.Proofs.YtlcodfjlbhjkbaaW.PrintMore
structure Moves (wI w : World) (g : Nat) (vI v : Value) : Prop where
 size : wI.heap.size ≤ w.heap.size
 frame : ∀ k, k < wI.heap.size → k ≠ g → some k ≠ vI.ownBlock → w.heap[k]? = wI.heap[k]?
 own : v.ownBlock = vI.ownBlock ∨ ∃ b, v.ownBlock = some b ∧ wI.heap.size ≤ b
theorem Moves.refl (w : World) (g : Nat) (v : Value) : Moves w w g v v := ⟨Nat.le_refl _, fun _ _ _ _ => rfl, .inl rfl⟩
structure WrSt (w0 wI : World) (g : Nat) (vI : Value) (out : List S121) (add cut : Int) (v : Value) (w : World) : Prop where
 blk : w.heap[g]? = some (.cells #[v, .int .i64 add, .int .i64 cut] 168 (0, 0))
 row : Kd.R k121 121 w w0.heap.size (fun _ => True) v out
 bel : Below w0.heap.size w0 w
 mv : Moves wI w g vI v
section
variable {w0 wI w w1 : World} {g : Nat} {vI v v1 : Value} {out out' : List S121} {add cut : Int}
theorem WrSt.drew (h : WrSt w0 wI g vI out add cut v w) : WrSt w0 wI g vI out add cut v w.drew :=
 ⟨blk_drew h.blk, Kd.R_drew h.row, below_drew1 h.bel, ⟨h.mv.size, h.mv.frame, h.mv.own⟩⟩
theorem WrSt.app (h : WrSt w0 wI g vI out add cut v w) (h0 : w0.heap.size ≤ g) (hR : Kd.R k121 121 w1 w0.heap.size (fun _ => True) v1 out') (hB : Below w0.heap.size w0 w1) (hg : w.grownBy w1 v.ownBlock)
  (hat : v1.ownBlock = v.ownBlock ∨ ∃ b, v1.ownBlock = some b ∧ w.heap.size ≤ b) :
  w1.heap[g]? = some (.cells #[v, .int .i64 add, .int .i64 cut] 168 (0, 0)) ∧ WrSt w0 wI g vI out' add cut v1 (w1.setCell ⟨g, 0, none⟩ v1) := by
 have hb := blk_grown h.blk hg (Kd.R_ne h.row h.blk (by decide))
 refine ⟨hb, blk_put hb 0 v1 rfl, Kd.R_set hR hb (by decide) 0 v1, below_set hB h0, ?_⟩
 refine ⟨by have := h.mv.size; have := hg.size; simp [World.setCell]; omega, fun k hk hgk hv => ?_, ?_⟩
 ·rw [Below.heap_setCell _ _ _ _ hgk, hg.block k (Nat.lt_of_lt_of_le hk h.mv.size), h.mv.frame k hk hgk hv]
  rcases h.mv.own with e | ⟨b, e, hb⟩
  ·rw [e]; exact hv
  ·rw [e]; intro h'; injection h' with h'; omega
 ·rcases hat with e | ⟨b, e, hb⟩
  ·rw [e]; exact h.mv.own
  ·exact .inr ⟨b, e, Nat.le_trans h.mv.size hb⟩
theorem WrSt.put1 (h : WrSt w0 wI g vI out add cut v w) (h0 : w0.heap.size ≤ g) (x : Int) : WrSt w0 wI g vI out x cut v (w.setCell ⟨g, 1, none⟩ (.int .i64 x)) :=
 ⟨blk_put h.blk 1 _ rfl, Kd.R_set h.row h.blk (by decide) 1 _, below_set h.bel h0, ⟨by have := h.mv.size; simp [World.setCell]; omega, fun k hk hgk hv => by rw [Below.heap_setCell _ _ _ _ hgk, h.mv.frame k hk hgk hv], h.mv.own⟩⟩
theorem WrSt.put2 (h : WrSt w0 wI g vI out add cut v w) (h0 : w0.heap.size ≤ g) (x : Int) : WrSt w0 wI g vI out add x v (w.setCell ⟨g, 2, none⟩ (.int .i64 x)) :=
 ⟨blk_put h.blk 2 _ rfl, Kd.R_set h.row h.blk (by decide) 2 _, below_set h.bel h0, ⟨by have := h.mv.size; simp [World.setCell]; omega, fun k hk hgk hv => by rw [Below.heap_setCell _ _ _ _ hgk, h.mv.frame k hk hgk hv], h.mv.own⟩⟩
end
def app1 (out : List S121) (kind n : Int) : List S121 := if 0 < n then out ++ [⟨kind, n⟩] else out
def flushL (out : List S121) (add cut : Int) : List S121 := app1 (app1 out 1 add) 2 cut
set_option maxRecDepth 100000 in
set_option maxHeartbeats 8000000 in
theorem flush_calls (w0 : World) (g : Nat) (out : List S121) (add cut : Int) (vI : Value) (w : World) (h0 : w0.heap.size ≤ g) (h : WrSt w0 w g vI out add cut vI w) (hl : (out.length + 2) * 16 ≤ 140737488355328) :
  Calls Try.prog 139 #[.pointer (some ⟨g, 0, none⟩)] w fun e w' => e = .returned (.tuple #[]) ∧ ∃ v, WrSt w0 w g vI (flushL out add cut) 0 0 v w' := by
 have hu121 := Try.underlying121
 have hu168 := Try.underlying168
 obtain ⟨AI, cI, hvI, hx⟩ := Kd.R_reads h.row
 clear hx
 subst hvI
 have HS := Aside0.mk h
 have H0 := Aside0.mk h0
 have HL := Aside0.mk hl
 clear h h0 hl
 obtain ⟨ta, hta⟩ : ∃ t : Bool, decide (0 < add) = t := ⟨_, rfl⟩
 have hc0 : w.cell? ⟨g, 0, none⟩ = some (.slice AI out.length cI) := (blk_cell HS.out.blk 0).trans rfl
 have hc1 : w.cell? ⟨g, 1, none⟩ = some (.int .i64 add) := (blk_cell HS.out.blk 1).trans rfl
 have hc2 : w.cell? ⟨g, 2, none⟩ = some (.int .i64 cut) := (blk_cell HS.out.blk 2).trans rfl
 go_enter Try.func139, Try.ntmps139
 go_upto_if 6 with (fail)
 go_cut [] (fun wc => ∃ (A1 : Option Addr) (n1 : Nat), Aside0 (WrSt w0 w g (.slice AI out.length cI) (app1 out 1 add) add cut (.slice A1 (app1 out 1 add).length n1) wc))
 case first =>
  cases ta with
  | false =>
   have hadd := of_decide_eq_false hta
   have e : app1 out 1 add = out := if_neg hadd
   go_wp2
   go_meet
   case rel => exact ⟨AI, cI, ⟨by rw [e]; exact HS.out⟩⟩
  | true =>
   have hadd := of_decide_eq_true hta
   have e : app1 out 1 add = out ++ [⟨1, add⟩] := if_pos hadd
   have HE := Aside0.mk e
   clear hadd e
   have HD := Aside0.mk HS.out.drew
   go_upto_region 1 with (fail)
   refine start_ (n := 15) (S := fun w' => w'.cell? ⟨g, 0, none⟩ = some (.slice AI out.length cI) ∧ w'.cell? ⟨g, 1, none⟩ = some (.int .i64 add)) (ds := [14]) #[false, false, false, false, false, false, false, false, false, false, false, false, false, false, false] (by kernel_rfl) rfl rfl ⟨((blk_cell HD.out.blk 0).trans rfl), ((blk_cell HD.out.blk 1).trans rfl)⟩ (fun hHeld => ?_)
   refine pure_ (i := 0) (N := some 7) (v := ?_) (a' := ?_) (bm 1 15) rfl rfl (by kernel_rfl) (fun _ _ _ h => h) (Or.inl ⟨by rfl, ?_⟩) ?_ ?_
   rotate_left
   ·intro w'
    go_simp
    with_reducible rfl
   rotate_left
   ·simp only [Act.put, sA, sB, sC, i64_w, i32_w]
    rfl
   refine pure_ (i := 1) (N := some 8) (v := ?_) (a' := ?_) (bm 3 15) rfl rfl (by kernel_rfl) (fun _ _ _ h => h) (Or.inl ⟨by rfl, ?_⟩) ?_ ?_
   rotate_left
   ·intro w'
    go_simp
    with_reducible rfl
   rotate_left
   ·simp only [Act.put, sA, sB, sC, i64_w, i32_w]
    rfl
   refine pure_ (i := 2) (N := some 9) (v := ?_) (a' := ?_) (bm 7 15) rfl rfl (by kernel_rfl) (fun _ _ _ h => h) (Or.inl ⟨by rfl, ?_⟩) ?_ ?_
   rotate_left
   ·intro w'
    go_simp
    with_reducible rfl
   rotate_left
   ·simp only [Act.put, sA, sB, sC, i64_w, i32_w]
    rfl
   refine pure_ (i := 3) (N := some 10) (v := ?_) (a' := ?_) (bm 15 15) rfl rfl (by kernel_rfl) (fun _ _ _ h => h) (Or.inl ⟨by rfl, ?_⟩) ?_ ?_
   rotate_left
   ·intro w'
    go_simp
    with_reducible rfl
   rotate_left
   ·simp only [Act.put, sA, sB, sC, i64_w, i32_w]
    rfl
   refine pure_ (i := 5) (N := some 12) (v := ?_) (a' := ?_) (bm 47 15) rfl rfl (by kernel_rfl) (fun _ _ _ h => h) (Or.inl ⟨by rfl, ?_⟩) ?_ ?_
   rotate_left
   ·intro w'
    go_simp
    with_reducible rfl
   rotate_left
   ·simp only [Act.put, sA, sB, sC, i64_w, i32_w]
    rfl
   refine pure_ (i := 6) (N := some 13) (v := ?_) (a' := ?_) (bm 111 15) rfl rfl (by kernel_rfl) (fun _ _ _ h => h) (Or.inl ⟨by rfl, ?_⟩) ?_ ?_
   rotate_left
   ·intro w'
    go_simp
    with_reducible rfl
   rotate_left
   ·simp only [Act.put, sA, sB, sC, i64_w, i32_w]
    rfl
   refine pure_ (i := 7) (N := some 14) (v := ?_) (a' := ?_) (bm 239 15) rfl rfl (by kernel_rfl) (fun _ _ _ h => h) (Or.inl ⟨by rfl, ?_⟩) ?_ ?_
   rotate_left
   ·intro w'
    go_simp
    with_reducible rfl
   rotate_left
   ·simp only [Act.put, sA, sB, sC, i64_w, i32_w]
    rfl
   refine take_ (i := 4) (N := some 11) (v := ?_) (a' := ?_) (bm 255 15) rfl rfl (by kernel_rfl) (fun _ _ _ h => h) (Or.inl ⟨by rfl, ?_⟩) hHeld ?_ ?_
   rotate_left
   ·rintro w' ⟨s0, s1⟩
    go_simp
    with_reducible rfl
   rotate_left
   ·simp only [Act.put, sA, sB, sC, i64_w, i32_w]
    rfl
   refine take_ (i := 8) (N := some 15) (v := ?_) (a' := ?_) (bm 511 15) rfl rfl (by kernel_rfl) (fun _ _ _ h => h) (Or.inl ⟨by rfl, ?_⟩) hHeld ?_ ?_
   rotate_left
   ·rintro w' ⟨s0, s1⟩
    go_simp
    with_reducible rfl
   rotate_left
   ·simp only [Act.put, sA, sB, sC, i64_w, i32_w]
    rfl
   refine pure_ (i := 9) (N := some 16) (v := ?_) (a' := ?_) (bm 1023 15) rfl rfl (by kernel_rfl) (fun _ _ _ h => h) (Or.inl ⟨by rfl, ?_⟩) ?_ ?_
   rotate_left
   ·intro w'
    go_simp
    with_reducible rfl
   rotate_left
   ·simp only [Act.put, sA, sB, sC, i64_w, i32_w]
    rfl
   refine one_ (i := 10) (N := some 17) (bm 2047 15) rfl rfl (by kernel_rfl) (by decide) (fun K hK => ?_)
   refine value_ (w1 := ?_) (v := ?_) (by rfl) rfl ?_ ?_
   rotate_left 2
   ·go_simp
    constructor
    ·rfl
    ·rfl
   refine hK.out _ _ ⟨((blk_cell (blk_alloc HD.out.blk _) 0).trans rfl), ((blk_cell (blk_alloc HD.out.blk _) 1).trans rfl)⟩ (fun hHeld => ?_)
   clear hK K
   refine norm_ (a' := ?_) ?_ ?_
   rotate_left
   ·show Act.put _ (some 17) _ = _
    simp only [Act.put, sA, sB, sC, i64_w, i32_w]
    rfl
   refine one_ (i := 11) (N := some 18) (bm 4095 15) rfl rfl (by kernel_rfl) (by decide) (fun K hK => ?_)
   refine Kd.R_append_step k121 (w0 := w0) w0.heap.size (by rfl) (.tmp 11) (.tmp 17) 59 121 (.agg #[.int .i64 0, .int .i64 0]) 16 rfl Try.underlying59 info121 rfl (by decide) (by decide) _ out ⟨1, add⟩ [.int .i64 1, .int .i64 add] (fun _ => True) (fun _ => False) (by rfl) (by rfl) (k121_mkM _ _ _ _) (fun _ h => h.elim) (fun _ _ => trivial) HD.out.row HD.out.bel HD.out.bel.size (by have := HL.out; omega) ?_
   intro v1 w1 hR1 hB1 hg hat
   obtain ⟨A1, n1, rfl⟩ := Kd.R_slice hR1
   obtain ⟨hb1, hW⟩ := HD.out.app H0.out hR1 hB1 hg hat
   have HW := Aside0.mk hW
   have hd0 : w1.cell? ⟨g, 0, none⟩ = _ := (blk_cell hb1 0).trans rfl
   have hd1 : w1.cell? ⟨g, 1, none⟩ = some (.int .i64 add) := (blk_cell hb1 1).trans rfl
   have hdf := blk_frozen hb1 0
   clear hR1 hB1 hg hat hb1 hW
   refine hK.out _ _ ⟨hd0, hd1⟩ (fun hHeld => ?_)
   clear hK K
   refine norm_ (a' := ?_) ?_ ?_
   rotate_left
   ·show Act.put _ (some 18) _ = _
    simp only [Act.put, sA, sB, sC, i64_w, i32_w]
    rfl
   refine pure_ (i := 12) (N := some 19) (v := ?_) (a' := ?_) (bm 8191 15) rfl rfl (by kernel_rfl) (fun _ _ _ h => h) (Or.inl ⟨by rfl, ?_⟩) ?_ ?_
   rotate_left
   ·intro w'
    go_simp
    with_reducible rfl
   rotate_left
   ·simp only [Act.put, sA, sB, sC, i64_w, i32_w]
    rfl
   refine pure_ (i := 13) (N := some 20) (v := ?_) (a' := ?_) (bm 16383 15) rfl rfl (by kernel_rfl) (fun _ _ _ h => h) (Or.inl ⟨by rfl, ?_⟩) ?_ ?_
   rotate_left
   ·intro w'
    go_simp
    with_reducible rfl
   rotate_left
   ·simp only [Act.put, sA, sB, sC, i64_w, i32_w]
    rfl
   refine last_ (i := 14) (N := none) (bm 32767 15) rfl rfl (by kernel_rfl) (by decide) (fun K hK => ?_)
   refine skip_ (w1 := ?_) (by rfl) rfl ?_ ?_
   rotate_left
   ·go_simp
    rfl
   refine hK.out _ _ ?_
   clear hK K
   refine done_ (by kernel_rfl) ?_
   go_wp2
   go_meet
   case rel => exact ⟨A1, n1, ⟨by rw [HE.out]; simpa using HW.out⟩⟩
 case rest =>
  clear hta hc0 hc1 hc2
  obtain ⟨A2, n2, HS2⟩ := hcut
  obtain ⟨l2, hl2⟩ : ∃ l : List S121, l = app1 out 1 add := ⟨_, rfl⟩
  have hlen : l2.length ≤ out.length + 1 := by rw [hl2]; unfold app1; split <;> simp
  have HLEN := Aside0.mk hlen
  rw [← hl2] at HS2
  have HL2 := Aside0.mk hl2
  clear hl2 hlen
  obtain ⟨tb, htb⟩ : ∃ t : Bool, decide (0 < cut) = t := ⟨_, rfl⟩
  have hc0 : wc.cell? ⟨g, 0, none⟩ = some (.slice A2 l2.length n2) := (blk_cell HS2.out.blk 0).trans rfl
  have hc1 : wc.cell? ⟨g, 1, none⟩ = some (.int .i64 add) := (blk_cell HS2.out.blk 1).trans rfl
  have hc2 : wc.cell? ⟨g, 2, none⟩ = some (.int .i64 cut) := (blk_cell HS2.out.blk 2).trans rfl
  go_upto_if 25 with (fail)
  go_cut [] (fun we => ∃ (A1 : Option Addr) (n1 : Nat), Aside0 (WrSt w0 w g (.slice AI out.length cI) (app1 l2 2 cut) add cut (.slice A1 (app1 l2 2 cut).length n1) we))
  case first =>
   cases tb with
   | false =>
    have hadd := of_decide_eq_false htb
    have e : app1 l2 2 cut = l2 := if_neg hadd
    go_wp2
    go_meet
    case rel => exact ⟨A2, n2, ⟨by rw [e]; exact HS2.out⟩⟩
   | true =>
    have hadd := of_decide_eq_true htb
    have e : app1 l2 2 cut = l2 ++ [⟨2, cut⟩] := if_pos hadd
    have HE := Aside0.mk e
    clear hadd e
    have HD := Aside0.mk HS2.out.drew
    go_upto_region 3 with (fail)
    refine start_ (n := 15) (S := fun w' => w'.cell? ⟨g, 0, none⟩ = some (.slice A2 l2.length n2) ∧ w'.cell? ⟨g, 2, none⟩ = some (.int .i64 cut)) (ds := [14]) #[false, false, false, false, false, false, false, false, false, false, false, false, false, false, false] (by kernel_rfl) rfl rfl ⟨((blk_cell HD.out.blk 0).trans rfl), ((blk_cell HD.out.blk 2).trans rfl)⟩ (fun hHeld => ?_)
    refine pure_ (i := 0) (N := some 26) (v := ?_) (a' := ?_) (bm 1 15) rfl rfl (by kernel_rfl) (fun _ _ _ h => h) (Or.inl ⟨by rfl, ?_⟩) ?_ ?_
    rotate_left
    ·intro w'
     go_simp
     with_reducible rfl
    rotate_left
    ·simp only [Act.put, sA, sB, sC, i64_w, i32_w]
     rfl
    refine pure_ (i := 1) (N := some 27) (v := ?_) (a' := ?_) (bm 3 15) rfl rfl (by kernel_rfl) (fun _ _ _ h => h) (Or.inl ⟨by rfl, ?_⟩) ?_ ?_
    rotate_left
    ·intro w'
     go_simp
     with_reducible rfl
    rotate_left
    ·simp only [Act.put, sA, sB, sC, i64_w, i32_w]
     rfl
    refine pure_ (i := 2) (N := some 28) (v := ?_) (a' := ?_) (bm 7 15) rfl rfl (by kernel_rfl) (fun _ _ _ h => h) (Or.inl ⟨by rfl, ?_⟩) ?_ ?_
    rotate_left
    ·intro w'
     go_simp
     with_reducible rfl
    rotate_left
    ·simp only [Act.put, sA, sB, sC, i64_w, i32_w]
     rfl
    refine pure_ (i := 3) (N := some 29) (v := ?_) (a' := ?_) (bm 15 15) rfl rfl (by kernel_rfl) (fun _ _ _ h => h) (Or.inl ⟨by rfl, ?_⟩) ?_ ?_
    rotate_left
    ·intro w'
     go_simp
     with_reducible rfl
    rotate_left
    ·simp only [Act.put, sA, sB, sC, i64_w, i32_w]
     rfl
    refine pure_ (i := 5) (N := some 31) (v := ?_) (a' := ?_) (bm 47 15) rfl rfl (by kernel_rfl) (fun _ _ _ h => h) (Or.inl ⟨by rfl, ?_⟩) ?_ ?_
    rotate_left
    ·intro w'
     go_simp
     with_reducible rfl
    rotate_left
    ·simp only [Act.put, sA, sB, sC, i64_w, i32_w]
     rfl
    refine pure_ (i := 6) (N := some 32) (v := ?_) (a' := ?_) (bm 111 15) rfl rfl (by kernel_rfl) (fun _ _ _ h => h) (Or.inl ⟨by rfl, ?_⟩) ?_ ?_
    rotate_left
    ·intro w'
     go_simp
     with_reducible rfl
    rotate_left
    ·simp only [Act.put, sA, sB, sC, i64_w, i32_w]
     rfl
    refine pure_ (i := 7) (N := some 33) (v := ?_) (a' := ?_) (bm 239 15) rfl rfl (by kernel_rfl) (fun _ _ _ h => h) (Or.inl ⟨by rfl, ?_⟩) ?_ ?_
    rotate_left
    ·intro w'
     go_simp
     with_reducible rfl
    rotate_left
    ·simp only [Act.put, sA, sB, sC, i64_w, i32_w]
     rfl
    refine take_ (i := 4) (N := some 30) (v := ?_) (a' := ?_) (bm 255 15) rfl rfl (by kernel_rfl) (fun _ _ _ h => h) (Or.inl ⟨by rfl, ?_⟩) hHeld ?_ ?_
    rotate_left
    ·rintro w' ⟨s0, s1⟩
     go_simp
     with_reducible rfl
    rotate_left
    ·simp only [Act.put, sA, sB, sC, i64_w, i32_w]
     rfl
    refine take_ (i := 8) (N := some 34) (v := ?_) (a' := ?_) (bm 511 15) rfl rfl (by kernel_rfl) (fun _ _ _ h => h) (Or.inl ⟨by rfl, ?_⟩) hHeld ?_ ?_
    rotate_left
    ·rintro w' ⟨s0, s1⟩
     go_simp
     with_reducible rfl
    rotate_left
    ·simp only [Act.put, sA, sB, sC, i64_w, i32_w]
     rfl
    refine pure_ (i := 9) (N := some 35) (v := ?_) (a' := ?_) (bm 1023 15) rfl rfl (by kernel_rfl) (fun _ _ _ h => h) (Or.inl ⟨by rfl, ?_⟩) ?_ ?_
    rotate_left
    ·intro w'
     go_simp
     with_reducible rfl
    rotate_left
    ·simp only [Act.put, sA, sB, sC, i64_w, i32_w]
     rfl
    refine one_ (i := 10) (N := some 36) (bm 2047 15) rfl rfl (by kernel_rfl) (by decide) (fun K hK => ?_)
    refine value_ (w1 := ?_) (v := ?_) (by rfl) rfl ?_ ?_
    rotate_left 2
    ·go_simp
     constructor
     ·rfl
     ·rfl
    refine hK.out _ _ ⟨((blk_cell (blk_alloc HD.out.blk _) 0).trans rfl), ((blk_cell (blk_alloc HD.out.blk _) 2).trans rfl)⟩ (fun hHeld => ?_)
    clear hK K
    refine norm_ (a' := ?_) ?_ ?_
    rotate_left
    ·show Act.put _ (some 36) _ = _
     simp only [Act.put, sA, sB, sC, i64_w, i32_w]
     rfl
    refine one_ (i := 11) (N := some 37) (bm 4095 15) rfl rfl (by kernel_rfl) (by decide) (fun K hK => ?_)
    refine Kd.R_append_step k121 (w0 := w0) w0.heap.size (by rfl) (.tmp 30) (.tmp 36) 59 121 (.agg #[.int .i64 0, .int .i64 0]) 16 rfl Try.underlying59 info121 rfl (by decide) (by decide) _ l2 ⟨2, cut⟩ [.int .i64 2, .int .i64 cut] (fun _ => True) (fun _ => False) (by rfl) (by rfl) (k121_mkM _ _ _ _) (fun _ h => h.elim) (fun _ _ => trivial) HD.out.row HD.out.bel HD.out.bel.size (by have := HL.out; have := HLEN.out; omega) ?_
    intro v1 w1 hR1 hB1 hg hat
    obtain ⟨A1, n1, rfl⟩ := Kd.R_slice hR1
    obtain ⟨hb1, hW⟩ := HD.out.app H0.out hR1 hB1 hg hat
    have HW := Aside0.mk hW
    have hd0 : w1.cell? ⟨g, 0, none⟩ = _ := (blk_cell hb1 0).trans rfl
    have hd1 : w1.cell? ⟨g, 2, none⟩ = some (.int .i64 cut) := (blk_cell hb1 2).trans rfl
    have hdf := blk_frozen hb1 0
    clear hR1 hB1 hg hat hb1 hW
    refine hK.out _ _ ⟨hd0, hd1⟩ (fun hHeld => ?_)
    clear hK K
    refine norm_ (a' := ?_) ?_ ?_
    rotate_left
    ·show Act.put _ (some 37) _ = _
     simp only [Act.put, sA, sB, sC, i64_w, i32_w]
     rfl
    refine pure_ (i := 12) (N := some 38) (v := ?_) (a' := ?_) (bm 8191 15) rfl rfl (by kernel_rfl) (fun _ _ _ h => h) (Or.inl ⟨by rfl, ?_⟩) ?_ ?_
    rotate_left
    ·intro w'
     go_simp
     with_reducible rfl
    rotate_left
    ·simp only [Act.put, sA, sB, sC, i64_w, i32_w]
     rfl
    refine pure_ (i := 13) (N := some 39) (v := ?_) (a' := ?_) (bm 16383 15) rfl rfl (by kernel_rfl) (fun _ _ _ h => h) (Or.inl ⟨by rfl, ?_⟩) ?_ ?_
    rotate_left
    ·intro w'
     go_simp
     with_reducible rfl
    rotate_left
    ·simp only [Act.put, sA, sB, sC, i64_w, i32_w]
     rfl
    refine last_ (i := 14) (N := none) (bm 32767 15) rfl rfl (by kernel_rfl) (by decide) (fun K hK => ?_)
    refine skip_ (w1 := ?_) (by rfl) rfl ?_ ?_
    rotate_left
    ·go_simp
     rfl
    refine hK.out _ _ ?_
    clear hK K
    refine done_ (by kernel_rfl) ?_
    go_wp2
    go_meet
    case rel => exact ⟨A1, n1, ⟨by rw [HE.out]; simpa using HW.out⟩⟩
  case rest =>
   clear htb hc0 hc1 hc2
   obtain ⟨A3, n3, HS3⟩ := hcut
   have HS4 := Aside0.mk ((HS3.out.put1 H0.out 0).put2 H0.out 0)
   have hc1 := (blk_cell HS3.out.blk 1).trans rfl
   have hc2 := (blk_cell HS3.out.blk 2).trans rfl
   have hf1 := blk_frozen HS3.out.blk 1
   have hf2 := blk_frozen HS3.out.blk 2
   go_wp2
   go_end0
   exact ⟨rfl, _, by unfold flushL; rw [← HL2.out]; exact HS4.out⟩
def keepL (out : List S121) (n : Int) : List S121 :=
 if 0 < out.length ∧ (rd_T121 out ((out.length : Int) - 1)).f0 = 0 then out.set (out.length - 1) ⟨0, wrap64 ((rd_T121 out ((out.length : Int) - 1)).f1 + n)⟩ else out ++ [⟨0, n⟩]
structure WS where
 out : List S121
 add : Int
 cut : Int
def putL (s : WS) (kind n : Int) : WS :=
 if n = 0 then s else if kind = 1 then ⟨s.out, wrap64 (s.add + n), s.cut⟩ else if kind = 2 then ⟨s.out, s.add, wrap64 (s.cut + n)⟩ else ⟨keepL (flushL s.out s.add s.cut) n, 0, 0⟩
theorem flush_len (out : List S121) (a c : Int) : out.length ≤ (flushL out a c).length ∧ (flushL out a c).length ≤ out.length + 2 := by
 unfold flushL app1
 repeat (first | split | simp)
theorem wr_seg {w0 wI w : World} {g go n cap j : Nat} {vI : Value} {o o' : List S121} {a c : Int} {x : Value} (h : WrSt w0 wI g vI o a c (.slice (some ⟨go, 0, none⟩) n cap) w) (h0 : w0.heap.size ≤ g) (hne : go ≠ g) (hgo : w0.heap.size ≤ go)
  (hR : Kd.R k121 121 (w.setCell ⟨go, j, none⟩ x) w0.heap.size (fun _ => True) (.slice (some ⟨go, 0, none⟩) n cap) o') : WrSt w0 wI g vI o' a c (.slice (some ⟨go, 0, none⟩) n cap) (w.setCell ⟨go, j, none⟩ x) := by
 refine ⟨blk_far h.blk (fun e => hne e.symm) _, hR, below_set h.bel hgo, ⟨by have := h.mv.size; simp [World.setCell]; omega, fun k hk hgk hv => ?_, h.mv.own⟩⟩
 have hk' : k ≠ go := by
  rcases h.mv.own with e | ⟨b, e, hb⟩
  ·intro e2
   apply hv
   rw [← e, e2]
   rfl
  ·have : go = b := by simpa [Value.ownBlock] using e
   omega
 rw [Below.heap_setCell _ _ _ _ hk', h.mv.frame k hk hgk hv]
set_option maxRecDepth 100000 in
set_option maxHeartbeats 8000000 in
theorem put_small (w0 : World) (g : Nat) (out : List S121) (add cut kind n : Int) (vI : Value) (w : World) (h0 : w0.heap.size ≤ g) (h : WrSt w0 w g vI out add cut vI w) (hk : n = 0 ∨ kind = 1 ∨ kind = 2) :
  Calls Try.prog 100 #[.pointer (some ⟨g, 0, none⟩), .int .i64 kind, .int .i64 n] w fun e w' => e = .returned (.tuple #[]) ∧ ∃ v, WrSt w0 w g vI (putL ⟨out, add, cut⟩ kind n).out (putL ⟨out, add, cut⟩ kind n).add (putL ⟨out, add, cut⟩ kind n).cut v w' := by
 have hu121 := Try.underlying121
 have hu168 := Try.underlying168
 have HS := Aside0.mk h
 have H0 := Aside0.mk h0
 have hc1 : w.cell? ⟨g, 1, none⟩ = some (.int .i64 add) := (blk_cell HS.out.blk 1).trans rfl
 have hc2 : w.cell? ⟨g, 2, none⟩ = some (.int .i64 cut) := (blk_cell HS.out.blk 2).trans rfl
 have hf1 := blk_frozen HS.out.blk 1
 have hf2 := blk_frozen HS.out.blk 2
 clear h h0
 by_cases c1 : n = 0
 ·have e : putL ⟨out, add, cut⟩ kind n = ⟨out, add, cut⟩ := if_pos c1
  have HE := Aside0.mk e
  have c1b : (n == 0) = true := beq_iff_eq.mpr c1
  clear e c1 hk
  go_enter Try.func100, Try.ntmps100
  go_wp2
  go_end0
  exact ⟨rfl, vI, by rw [HE.out]; exact HS.out⟩
 ·have c1b : (n == 0) = false := beq_eq_false_iff_ne.mpr c1
  by_cases c2 : kind = 1
  ·have e : putL ⟨out, add, cut⟩ kind n = ⟨out, wrap64 (add + n), cut⟩ := by unfold putL; rw [if_neg c1, if_pos c2]
   have HE := Aside0.mk e
   have c2b : (kind == 1) = true := beq_iff_eq.mpr c2
   clear e c1 c2 hk
   go_enter Try.func100, Try.ntmps100
   go_wp2
   go_end0
   exact ⟨rfl, vI, by rw [HE.out]; exact HS.out.put1 H0.out _⟩
  ·have c2b : (kind == 1) = false := beq_eq_false_iff_ne.mpr c2
   have c3 : kind = 2 := by omega
   have e : putL ⟨out, add, cut⟩ kind n = ⟨out, add, wrap64 (cut + n)⟩ := by unfold putL; rw [if_neg c1, if_neg c2, if_pos c3]
   have HE := Aside0.mk e
   have c3b : (kind == 2) = true := beq_iff_eq.mpr c3
   clear e c1 c2 c3 hk
   go_enter Try.func100, Try.ntmps100
   go_wp2
   go_end0
   exact ⟨rfl, vI, by rw [HE.out]; exact HS.out.put2 H0.out _⟩
set_option maxRecDepth 100000 in
set_option maxHeartbeats 8000000 in
theorem put_keep (w0 : World) (g : Nat) (out : List S121) (add cut kind n : Int) (vI : Value) (w : World) (h0 : w0.heap.size ≤ g) (h : WrSt w0 w g vI out add cut vI w) (hl : (out.length + 3) * 16 ≤ 140737488355328) (hn : n ≠ 0) (hk1 : kind ≠ 1) (hk2 : kind ≠ 2) :
  Calls Try.prog 100 #[.pointer (some ⟨g, 0, none⟩), .int .i64 kind, .int .i64 n] w fun e w' => e = .returned (.tuple #[]) ∧ ∃ v, WrSt w0 w g vI (keepL (flushL out add cut) n) 0 0 v w' := by
 have hu121 := Try.underlying121
 have hu168 := Try.underlying168
 have HF := Aside0.mk (flush_calls w0 g out add cut vI w h0 h (by omega))
 have H0 := Aside0.mk h0
 have HL := Aside0.mk (show (flushL out add cut).length ≤ 8796093022207 by have := (flush_len out add cut).2; omega)
 have c1b : (n == 0) = false := beq_eq_false_iff_ne.mpr hn
 have c2b : (kind == 1) = false := beq_eq_false_iff_ne.mpr hk1
 have c3b : (kind == 2) = false := beq_eq_false_iff_ne.mpr hk2
 clear h h0 hl hn hk1 hk2
 obtain ⟨o, ho⟩ : ∃ o, o = flushL out add cut := ⟨_, rfl⟩
 rw [← ho] at HF HL ⊢
 clear ho
 go_enter Try.func100, Try.ntmps100
 go_wp2_with (go_at_call 139; refine HF.out.mono ?_)
 rintro e w1 ⟨rfl, v, hS⟩
 obtain ⟨A1, n1, rfl⟩ := Kd.R_slice hS.row
 have HS := Aside0.mk hS
 have hc0 : w1.cell? ⟨g, 0, none⟩ = some (.slice A1 o.length n1) := (blk_cell HS.out.blk 0).trans rfl
 have hf0 := blk_frozen HS.out.blk 0
 have hg : g < w1.heap.size := blk_lt hS.blk
 have hlen := HL.out
 clear hS HF
 by_cases hz : 0 < o.length
 ·have p0 : 0 ≤ (o.length : Int) - 1 := by omega
  have q0 : (o.length : Int) - 1 < (o.length : Int) := by omega
  obtain ⟨go, co, eo, gb, gl, cells, hblk⟩ := Kd.R_form HS.out.row hz
  injection eo with ea en ec
  subst ea
  subst ec
  clear en
  obtain ⟨ce, hcl, hM, hcc, hfr⟩ := Kd.R_elem HS.out.row z121 ((o.length : Int) - 1) p0 q0
  obtain rfl := k121_openM hM
  have hne : go ≠ g := fun e => Kd.R_ne HS.out.row HS.out.blk (by decide) (by rw [e]; rfl)
  have hx0 : w1.cell? ⟨go, (o.length - 1) * 2, none⟩ = some (.int .i64 (rd_T121 o ((o.length : Int) - 1)).f0) := by
   have := hcc 0 _ rfl
   rwa [show (((o.length : Int) - 1).toNat * k121.sz + 0) = (o.length - 1) * 2 by show (((o.length : Int) - 1).toNat * 2 + 0) = _; omega] at this
  have hx1 : w1.cell? ⟨go, (o.length - 1) * 2 + 1, none⟩ = some (.int .i64 (rd_T121 o ((o.length : Int) - 1)).f1) := by
   have := hcc 1 _ rfl
   rwa [show (((o.length : Int) - 1).toNat * k121.sz + 1) = (o.length - 1) * 2 + 1 by show (((o.length : Int) - 1).toNat * 2 + 1) = _; omega] at this
  have hfx1 : w1.frozen? ⟨go, (o.length - 1) * 2 + 1, none⟩ = false := by
   have := hfr 1
   rwa [show (((o.length : Int) - 1).toNat * k121.sz + 1) = (o.length - 1) * 2 + 1 by show (((o.length : Int) - 1).toNat * 2 + 1) = _; omega] at this
  by_cases hkp : (rd_T121 o ((o.length : Int) - 1)).f0 = 0
  ·have c4 : ((rd_T121 o ((o.length : Int) - 1)).f0 == 0) = true := beq_iff_eq.mpr hkp
   have e : keepL o n = o.set (o.length - 1) ⟨0, wrap64 ((rd_T121 o ((o.length : Int) - 1)).f1 + n)⟩ := if_pos ⟨hz, hkp⟩
   have HE := Aside0.mk e
   have HSEG := Aside0.mk (Kd.R_seg HS.out.row ((o.length : Int) - 1) p0 q0 (seg := [.int .i64 (wrap64 ((rd_T121 o ((o.length : Int) - 1)).f1 + n))]) (j := 1) hcl hcc (by show 2 ≤ 2; omega) (x' := (⟨0, wrap64 ((rd_T121 o ((o.length : Int) - 1)).f1 + n)⟩ : S121)) (okp := fun _ => False) (by rw [show (o.getD ((o.length : Int) - 1).toNat z121).f0 = 0 from hkp]; exact k121_mkM _ _ _ _) (fun _ h => h.elim))
   have HN := Aside0.mk hne
   have HGB := Aside0.mk gb
   clear hcl hM hcc hfr gb gl hblk hkp e hne
   go_wp2
   refine bodyPost_ret (results_none (by first | rfl | kernel_rfl) _ _ _) rfl ?_
   refine ⟨rfl, .slice (some ⟨go, 0, none⟩) o.length n1, ?_⟩
   rw [HE.out]
   have h2 := HSEG.out.1
   simp only [World.setCells, show k121.sz = 2 from rfl, show ((o.length : Int) - 1).toNat = o.length - 1 by omega] at h2
   exact wr_seg HS.out H0.out HN.out HGB.out h2
  ·have c4 : ((rd_T121 o ((o.length : Int) - 1)).f0 == 0) = false := beq_eq_false_iff_ne.mpr hkp
   have e : keepL o n = o ++ [⟨0, n⟩] := if_neg (fun h => hkp h.2)
   have HE := Aside0.mk e
   clear hcl hM hcc hfr gb gl hblk hkp e hne
   go_wp2_with (at_builtin; (refine Kd.R_append k121 (w0 := w0) w0.heap.size rfl (.tmp 44) (.tmp 47) 59 121 (.agg #[.int .i64 0, .int .i64 0]) 16 rfl Try.underlying59 info121 rfl (by decide) (by decide) _ o ⟨0, n⟩ _ (fun _ => True) (fun _ => False) rfl (by simp [Act.eval]) (k121_mkM _ _ _ _) (fun _ h => h.elim) (fun _ _ => trivial) HS.out.row HS.out.bel HS.out.bel.size (by have := HL.out; omega) ?_))
   intro v1 w2 hR1 hB1 hg1 hat
   obtain ⟨A2, n2, rfl⟩ := Kd.R_slice hR1
   obtain ⟨hb1, hW⟩ := HS.out.app H0.out hR1 hB1 hg1 hat
   have HW := Aside0.mk hW
   have hd0 := (blk_cell hb1 0).trans rfl
   have hdf := blk_frozen hb1 0
   clear hR1 hB1 hg1 hat hb1 hW
   go_wp2
   go_end0
   exact ⟨rfl, _, by rw [HE.out]; simpa using HW.out⟩
 ·have hnil : o = [] := List.eq_nil_of_length_eq_zero (by omega)
  subst hnil
  have e : keepL [] n = [⟨0, n⟩] := by unfold keepL; rw [if_neg (fun h => absurd h.1 (by decide))]; rfl
  have HE := Aside0.mk e
  clear e hz
  go_wp2_with (at_builtin; refine Kd.R_append k121 (w0 := w0) w0.heap.size rfl (.tmp 44) (.tmp 47) 59 121 (.agg #[.int .i64 0, .int .i64 0]) 16 rfl Try.underlying59 info121 rfl (by decide) (by decide) _ [] ⟨0, n⟩ _ (fun _ => True) (fun _ => False) rfl (by simp [Act.eval]) (k121_mkM _ _ _ _) (fun _ h => h.elim) (fun _ _ => trivial) HS.out.row HS.out.bel HS.out.bel.size (by simp) ?_)
  intro v1 w2 hR1 hB1 hg1 hat
  obtain ⟨A2, n2, rfl⟩ := Kd.R_slice hR1
  obtain ⟨hb1, hW⟩ := HS.out.app H0.out hR1 hB1 hg1 hat
  have HW := Aside0.mk hW
  have hd0 := (blk_cell hb1 0).trans rfl
  have hdf := blk_frozen hb1 0
  clear hR1 hB1 hg1 hat hb1 hW
  go_wp2
  go_end0
  exact ⟨rfl, _, by rw [HE.out]; simpa using HW.out⟩
structure RdSt (w0 : World) (g : Nat) (l : List S121) (u : Int) (w : World) : Prop where
 ex : ∃ (A : Option Addr) (c : Nat), w.heap[g]? = some (.cells #[.slice A l.length c, .int .i64 u] 171 (0, 0)) ∧ Kd.C k121 w0 A l.length l ∧ l.length ≤ c
def kindL (l : List S121) : Int := if l.length = 0 then -1 else (rd_T121 l 0).f0
def leftL (l : List S121) (u : Int) : Int := wrap64 ((rd_T121 l 0).f1 - u)
def takeU (l : List S121) (u n : Int) : Int := if wrap64 (u + n) = (rd_T121 l 0).f1 then 0 else wrap64 (u + n)
def takeL (l : List S121) (u n : Int) : List S121 := if wrap64 (u + n) = (rd_T121 l 0).f1 then l.drop 1 else l
inductive RdMv (g : Nat) (w : World) : World → Prop
 | refl : RdMv g w w
 | put {w' : World} {cs : Array Value} {i : Nat} {v : Value} : RdMv g w w' → w'.heap[g]? = some (.cells cs 171 (0, 0)) → RdMv g w (w'.setCell ⟨g, i, none⟩ v)
 | drew {w' : World} (n : Nat) : RdMv g w w' → RdMv g w (w'.drewN n)
theorem RdMv.wr {w0 w w' : World} {g g' : Nat} {v : Value} {out : List S121} {a c : Int} (h : RdMv g' w w') (hw0 : w0.heap.size ≤ g') (k : WrSt w0 w g v out a c v w) (hne : g ≠ g') :
  WrSt w0 w' g v out a c v w' := by
 have H : w'.heap[g]? = some (.cells #[v, .int .i64 a, .int .i64 c] 168 (0, 0)) ∧ Kd.R k121 121 w' w0.heap.size (fun _ => True) v out ∧ Below w0.heap.size w0 w' := by
  induction h with
  | refl => exact ⟨k.blk, k.row, k.bel⟩
  | @put w1 cs i u h hb ih => exact ⟨blk_far (p := ⟨g', i, none⟩) ih.1 hne _, Kd.R_set ih.2.1 hb (by decide) _ _, below_set ih.2.2 hw0⟩
  | drew n h ih => exact ⟨blk_drewN ih.1 n, Kd.R_drewN ih.2.1 n, pw_below_drewN ih.2.2 n⟩
 exact ⟨H.1, H.2.1, H.2.2, Moves.refl _ _ _⟩
theorem RdMv.far {w w' : World} {g g' : Nat} {b : Obj} (h : RdMv g' w w') (hb : w.heap[g]? = some b) (hne : g ≠ g') : w'.heap[g]? = some b := by
 induction h with
 | refl => exact hb
 | @put w1 cs i u h _ ih => exact (Below.heap_setCell _ _ _ _ hne).trans ih
 | drew n h ih => exact blk_drewN ih n
theorem RdSt.far {w0 w w' : World} {g g' : Nat} {l : List S121} {u : Int} (h : RdMv g' w w') (k : RdSt w0 g l u w) (hne : g ≠ g') : RdSt w0 g l u w' := by
 obtain ⟨A, c, hb, hC, hc⟩ := k.ex
 exact ⟨A, c, h.far hb hne, hC, hc⟩
theorem Moves.rd {w0 w w' : World} {g g' : Nat} {v v' : Value} {l : List S121} {u : Int} (h : Moves w w' g v v') (hv : some g' ≠ v.ownBlock) (k : RdSt w0 g' l u w) (hne : g' ≠ g) : RdSt w0 g' l u w' := by
 obtain ⟨A, c, hb, hC, hc⟩ := k.ex
 exact ⟨A, c, (h.frame g' (blk_lt hb) hne hv).trans hb, hC, hc⟩
set_option maxRecDepth 100000 in
set_option maxHeartbeats 4000000 in
theorem kind_calls (w0 : World) (g : Nat) (l : List S121) (u : Int) (w : World) (h : RdSt w0 g l u w) (hB : Below w0.heap.size w0 w) :
  Calls Try.prog 99 #[.pointer (some ⟨g, 0, none⟩)] w fun e w' => e = .returned (.int .i64 (kindL l)) ∧ w' = w := by
 have hu121 := Try.underlying121
 have hu171 := Try.underlying171
 obtain ⟨A, c, hb, hC, hc⟩ := h.ex
 have hc0 : w.cell? ⟨g, 0, none⟩ = some (.slice A l.length c) := (blk_cell hb 0).trans rfl
 have HB := Aside0.mk hB
 have HC := Aside0.mk hC
 clear h hb hC hB hc
 by_cases c1 : l.length = 0
 ·have e : kindL l = -1 := if_pos c1
  have c1b : (((l.length : Int)) == 0) = true := beq_iff_eq.mpr (by omega)
  have c1c : (l.length == 0) = true := beq_iff_eq.mpr c1
  rw [e]
  clear e c1
  go_enter Try.func99, Try.ntmps99
  go_wp2
  first | go_ret | go_ret2
  exact ⟨rfl, rfl⟩
 ·have e : kindL l = (rd_T121 l 0).f0 := if_neg c1
  have c1b : (((l.length : Int)) == 0) = false := beq_eq_false_iff_ne.mpr (by omega)
  have c1c : (l.length == 0) = false := beq_eq_false_iff_ne.mpr c1
  rw [e]
  clear e
  have p0 : 0 ≤ (0 : Int) := Int.le_refl _
  have q0 : (0 : Int) < (l.length : Int) := by omega
  have q1 : 0 < l.length := by omega
  obtain ⟨ad0, e0, hx0, hx1⟩ := at_T121 HC.out (0 : Int) p0 q0
  cases e0
  replace hx0 := (HB.out.cell (World.block_lt_of_cell? w0 _ hx0)).trans hx0
  replace hx1 := (HB.out.cell (World.block_lt_of_cell? w0 _ hx1)).trans hx1
  simp only [show (0 : Int).toNat = 0 from rfl, Nat.zero_mul, Nat.reduceMul, Nat.reduceEqDiff, Go.Addr.add, ↓reduceIte] at hx0 hx1
  clear c1
  go_enter Try.func99, Try.ntmps99
  go_wp2
  first | go_ret | go_ret2
  exact ⟨rfl, rfl⟩
set_option maxRecDepth 100000 in
set_option maxHeartbeats 4000000 in
theorem left_calls (w0 : World) (g : Nat) (l : List S121) (u : Int) (w : World) (h : RdSt w0 g l u w) (hB : Below w0.heap.size w0 w) (hl : 0 < l.length) :
  Calls Try.prog 101 #[.pointer (some ⟨g, 0, none⟩)] w fun e w' => e = .returned (.int .i64 (leftL l u)) ∧ ∃ n, w' = w.drewN n := by
 have hu121 := Try.underlying121
 have hu171 := Try.underlying171
 obtain ⟨A, c, hb, hC, hc⟩ := h.ex
 have hc0 : w.cell? ⟨g, 0, none⟩ = some (.slice A l.length c) := (blk_cell hb 0).trans rfl
 have hc1 : w.cell? ⟨g, 1, none⟩ = some (.int .i64 u) := (blk_cell hb 1).trans rfl
 have HB := Aside0.mk hB
 have HC := Aside0.mk hC
 clear h hb hC hB hc
 have p0 : 0 ≤ (0 : Int) := Int.le_refl _
 have q0 : (0 : Int) < (l.length : Int) := by omega
 obtain ⟨ad0, e0, hx0, hx1⟩ := at_T121 HC.out (0 : Int) p0 q0
 cases e0
 replace hx0 := (HB.out.cell (World.block_lt_of_cell? w0 _ hx0)).trans hx0
 replace hx1 := (HB.out.cell (World.block_lt_of_cell? w0 _ hx1)).trans hx1
 simp only [show (0 : Int).toNat = 0 from rfl, Nat.zero_mul, Nat.reduceMul, Nat.reduceEqDiff, Go.Addr.add, ↓reduceIte] at hx0 hx1
 go_enter Try.func101, Try.ntmps101
 go_wp2
 go_quiet (fail)
 go_wp2
 first | go_ret | go_ret2
 exact ⟨rfl, _, rfl⟩
set_option maxRecDepth 100000 in
set_option maxHeartbeats 4000000 in
theorem take_calls (w0 : World) (g : Nat) (l : List S121) (u n : Int) (w : World) (h0 : w0.heap.size ≤ g) (h : RdSt w0 g l u w) (hB : Below w0.heap.size w0 w) (hl : 0 < l.length) :
  Calls Try.prog 102 #[.pointer (some ⟨g, 0, none⟩), .int .i64 n] w fun e w' => e = .returned (.tuple #[]) ∧ RdMv g w w' ∧ RdSt w0 g (takeL l u n) (takeU l u n) w' := by
 have hu121 := Try.underlying121
 have hu171 := Try.underlying171
 obtain ⟨A, c, hb, hC, hc⟩ := h.ex
 have hc0 : w.cell? ⟨g, 0, none⟩ = some (.slice A l.length c) := (blk_cell hb 0).trans rfl
 have hc1 : w.cell? ⟨g, 1, none⟩ = some (.int .i64 u) := (blk_cell hb 1).trans rfl
 have hf0 := blk_frozen hb 0
 have hf1 := blk_frozen hb 1
 have HB := Aside0.mk hB
 have HC := Aside0.mk hC
 have HBL := Aside0.mk hb
 have HCC := Aside0.mk hc
 have H0 := Aside0.mk h0
 have hgs : g < w.heap.size := blk_lt hb
 clear h hb hC hB hc h0
 have p0 : 0 ≤ (0 : Int) := Int.le_refl _
 have q0 : (0 : Int) < (l.length : Int) := by omega
 obtain ⟨ad0, e0, hx0, hx1⟩ := at_T121 HC.out (0 : Int) p0 q0
 cases e0
 have HGN : Aside0 (g ≠ ad0.block) := ⟨fun e => by have := World.block_lt_of_cell? w0 _ hx0; have := H0.out; simp [Go.Addr.add] at *; omega⟩
 replace hx0 := (HB.out.cell (World.block_lt_of_cell? w0 _ hx0)).trans hx0
 replace hx1 := (HB.out.cell (World.block_lt_of_cell? w0 _ hx1)).trans hx1
 simp only [show (0 : Int).toNat = 0 from rfl, Nat.zero_mul, Nat.reduceMul, Nat.reduceEqDiff, Go.Addr.add, ↓reduceIte] at hx0 hx1
 have HMV := Aside0.mk (RdMv.put (i := 1) (v := .int .i64 (wrap64 (u + n))) (RdMv.refl (g := g) (w := w)) HBL.out)
 by_cases c1 : wrap64 (u + n) = (rd_T121 l 0).f1
 ·have e : takeL l u n = l.drop 1 := if_pos c1
  have e' : takeU l u n = 0 := if_pos c1
  have c1b : (wrap64 (u + n) == (rd_T121 l 0).f1) = true := beq_iff_eq.mpr c1
  rw [e, e']
  obtain ⟨lt, hlt⟩ : ∃ x, x = l.drop 1 := ⟨_, rfl⟩
  rw [← hlt]
  have HLT := Aside0.mk hlt
  clear e e' c1 hlt
  have hy1 := (World.cell?_setCell_far w ⟨g, 1, none⟩ ⟨ad0.block, ad0.off + 1, none⟩ (.int .i64 (wrap64 (u + n))) (fun e => HGN.out e)).trans hx1
  go_enter Try.func102, Try.ntmps102
  go_wp2
  go_quiet (fail)
  go_wp2
  all_goals
   have HCN := Aside0.mk (Kd.C_drop HC.out (m := 1) (by omega) HCC.out)
   first | rw [if_neg h] at HCN | rw [if_pos h] at HCN
   rw [← HLT.out] at HCN
   have hlen : lt.length = l.length - 1 := by rw [HLT.out, List.length_drop]
   go_end0
   refine ⟨rfl, RdMv.put (RdMv.put (RdMv.drew _ HMV.out) (blk_drewN (blk_put HBL.out 1 _ rfl) _)) (blk_put (blk_drewN (blk_put HBL.out 1 _ rfl) _) 0 _ rfl), ?_⟩
   first | refine ⟨_, c - 1, ?_, HCN.out, by have := HCC.out; omega⟩ | refine ⟨_, 0, ?_, HCN.out, by have := HCC.out; omega⟩
   rw [hlen]
   first | exact blk_put (blk_put (blk_drewN (blk_put HBL.out 1 _ rfl) _) 0 _ rfl) 1 _ rfl | (subst h; exact blk_put (blk_put (blk_drewN (blk_put HBL.out 1 _ rfl) _) 0 _ rfl) 1 _ rfl)
 ·have e : takeL l u n = l := if_neg c1
  have e' : takeU l u n = wrap64 (u + n) := if_neg c1
  have c1b : (wrap64 (u + n) == (rd_T121 l 0).f1) = false := beq_eq_false_iff_ne.mpr c1
  rw [e, e']
  clear e e' c1
  have hy1 := (World.cell?_setCell_far w ⟨g, 1, none⟩ ⟨ad0.block, ad0.off + 1, none⟩ (.int .i64 (wrap64 (u + n))) (fun e => HGN.out e)).trans hx1
  go_enter Try.func102, Try.ntmps102
  go_wp2
  go_quiet (fail)
  go_wp2
  go_end0
  exact ⟨rfl, RdMv.drew _ HMV.out, _, _, blk_drewN (blk_put HBL.out 1 _ rfl) _, HC.out, HCC.out⟩
theorem put_calls (w0 : World) (g : Nat) (s : WS) (kind n : Int) (vI : Value) (w : World) (h0 : w0.heap.size ≤ g) (h : WrSt w0 w g vI s.out s.add s.cut vI w) (hl : (s.out.length + 3) * 16 ≤ 140737488355328) :
  Calls Try.prog 100 #[.pointer (some ⟨g, 0, none⟩), .int .i64 kind, .int .i64 n] w fun e w' => e = .returned (.tuple #[]) ∧ ∃ v, WrSt w0 w g vI (putL s kind n).out (putL s kind n).add (putL s kind n).cut v w' := by
 by_cases c : n = 0 ∨ kind = 1 ∨ kind = 2
 ·exact put_small w0 g s.out s.add s.cut kind n vI w h0 h c
 ·have c0 : n ≠ 0 := fun e => c (.inl e)
  have c1 : kind ≠ 1 := fun e => c (.inr (.inl e))
  have c2 : kind ≠ 2 := fun e => c (.inr (.inr e))
  have e : putL s kind n = ⟨keepL (flushL s.out s.add s.cut) n, 0, 0⟩ := by unfold putL; rw [if_neg c0, if_neg c1, if_neg c2]
  rw [e]
  exact put_keep w0 g s.out s.add s.cut kind n vI w h0 h hl c0 c1 c2
def doneF (k : Nat) (s : WS) : Option (List S121 × Int) := (axis_Check.f k (flushL s.out s.add s.cut)).bind fun e => if e ≠ 0 then some ([], 3) else some (flushL s.out s.add s.cut, 0)
theorem doneF_mono (s : WS) (k : Nat) : LeO (doneF k s) (doneF (k + 1) s) := LeO.bind (axis_Check.mono _ k) (fun _ => LeO.refl _)
set_option maxRecDepth 100000 in
set_option maxHeartbeats 4000000 in
theorem done_calls (k : Nat) (w0 : World) (g : Nat) (s : WS) (r1 : List S121) (r2 : Int) (vI : Value) (w : World) (h0 : w0.heap.size ≤ g) (h : WrSt w0 w g vI s.out s.add s.cut vI w) (hl : (s.out.length + 3) * 16 ≤ 140737488355328) (hf : doneF k s = some (r1, r2)) :
  Calls Try.prog 103 #[.pointer (some ⟨g, 0, none⟩)] w fun e w' => ∃ v, e = .returned (.tuple #[v, .int .i64 r2]) ∧ Kd.R k121 121 w' w0.heap.size (fun _ => True) v r1 ∧ Below w0.heap.size w0 w' ∧ ∃ vM, Moves w w' g vI vM ∧ (v.ownBlock = none ∨ v = vM) := by
 have hu121 := Try.underlying121
 have hu168 := Try.underlying168
 have HF := Aside0.mk (flush_calls w0 g s.out s.add s.cut vI w h0 h (by omega))
 rw [doneF] at hf
 obtain ⟨o, ho⟩ : ∃ o, o = flushL s.out s.add s.cut := ⟨_, rfl⟩
 rw [← ho] at HF hf
 clear ho h hl
 replace hf := Option.bind_eq_some_iff.1 hf
 obtain ⟨e, he, hf⟩ := hf
 have HE := Aside0.mk he
 clear he
 by_cases c1 : e ≠ 0
 ·rw [if_pos c1] at hf
  have c1b : (e != 0) = true := bne_iff_ne.mpr c1
  simp only [Option.some.injEq, Prod.mk.injEq] at hf
  obtain ⟨rfl, rfl⟩ := hf
  clear c1
  go_enter Try.func103, Try.ntmps103
  go_wp2_with (go_at_call 139; refine HF.out.mono ?_)
  rintro e1 w1 ⟨rfl, v, hS⟩
  obtain ⟨A1, n1, rfl⟩ := Kd.R_slice hS.row
  have HS := Aside0.mk hS
  have hc0 : w1.cell? ⟨g, 0, none⟩ = some (.slice A1 o.length n1) := (blk_cell HS.out.blk 0).trans rfl
  clear hS HF
  go_wp2_with (go_at_call 69; (with_reducible refine (axis_Check.calls k _ _ o e _ (Kd.R_reads' HS.out.row).2.2 (Kd.R_reads' HS.out.row).2.1 HE.out).mono ?_); rintro e1 w2 ⟨rfl, hb⟩; have HB2 := Aside0.mk hb; clear hb)
  first | go_ret | go_ret2
  refine ⟨_, rfl, Kd.R_nil _ _ _ _ _, below_step HS.out.bel HB2.out, ?_⟩
  have hm := HS.out.mv
  exact ⟨_, ⟨Nat.le_trans hm.size HB2.out.size, fun k hk hg hv => (HB2.out.block k (Nat.lt_of_lt_of_le hk hm.size)).trans (hm.frame k hk hg hv), hm.own⟩, .inl rfl⟩
 ·rw [if_neg c1] at hf
  have c1b : (e != 0) = false := by simpa using c1
  simp only [Option.some.injEq, Prod.mk.injEq] at hf
  obtain ⟨rfl, rfl⟩ := hf
  clear c1
  go_enter Try.func103, Try.ntmps103
  go_wp2_with (go_at_call 139; refine HF.out.mono ?_)
  rintro e1 w1 ⟨rfl, v, hS⟩
  obtain ⟨A1, n1, rfl⟩ := Kd.R_slice hS.row
  have HS := Aside0.mk hS
  have hc0 : w1.cell? ⟨g, 0, none⟩ = some (.slice A1 o.length n1) := (blk_cell HS.out.blk 0).trans rfl
  have hglt := blk_lt hS.blk
  clear hS HF
  go_wp2_with (go_at_call 69; (with_reducible refine (axis_Check.calls k _ _ o e _ (Kd.R_reads' HS.out.row).2.2 (Kd.R_reads' HS.out.row).2.1 HE.out).mono ?_); rintro e1 w2 ⟨rfl, hb⟩; have HB2 := Aside0.mk hb; clear hb; replace hc0 := (HB2.out.cell hglt).trans hc0)
  first | go_ret | go_ret2
  refine ⟨_, rfl, Kd.R_below HS.out.row HB2.out, below_step HS.out.bel HB2.out, ?_⟩
  have hm := HS.out.mv
  exact ⟨_, ⟨Nat.le_trans hm.size HB2.out.size, fun k hk hg hv => (HB2.out.block k (Nat.lt_of_lt_of_le hk hm.size)).trans (hm.frame k hk hg hv), hm.own⟩, .inr rfl⟩
structure JSt (w0 : World) (gw gp gq : Nat) (a : List S121) (ua : Int) (b : List S121) (ub : Int) (s : WS) (w : World) : Prop where
 w_ : ∃ v, WrSt w0 w gw v s.out s.add s.cut v w
 p_ : RdSt w0 gp a ua w
 q_ : RdSt w0 gq b ub w
 wp : gw ≠ gp
 wq : gw ≠ gq
 pq : gp ≠ gq
 lw : w0.heap.size ≤ gw
 lp : w0.heap.size ≤ gp
 lq : w0.heap.size ≤ gq
section
variable {w0 w w' : World} {gw gp gq : Nat} {a b : List S121} {ua ub : Int} {s : WS}
theorem JSt.bel (h : JSt w0 gw gp gq a ua b ub s w) : Below w0.heap.size w0 w := by
 obtain ⟨v, hv⟩ := h.w_
 exact hv.bel
theorem JSt.mvp {a' : List S121} {ua' : Int} (h : JSt w0 gw gp gq a ua b ub s w) (hm : RdMv gp w w') (hr : RdSt w0 gp a' ua' w') : JSt w0 gw gp gq a' ua' b ub s w' := by
 obtain ⟨v, hv⟩ := h.w_
 exact ⟨⟨v, hm.wr h.lp hv h.wp⟩, hr, RdSt.far hm h.q_ (fun e => h.pq e.symm), h.wp, h.wq, h.pq, h.lw, h.lp, h.lq⟩
theorem JSt.mvq {b' : List S121} {ub' : Int} (h : JSt w0 gw gp gq a ua b ub s w) (hm : RdMv gq w w') (hr : RdSt w0 gq b' ub' w') : JSt w0 gw gp gq a ua b' ub' s w' := by
 obtain ⟨v, hv⟩ := h.w_
 exact ⟨⟨v, hm.wr h.lq hv h.wq⟩, RdSt.far hm h.p_ h.pq, hr, h.wp, h.wq, h.pq, h.lw, h.lp, h.lq⟩
theorem JSt.mvn (h : JSt w0 gw gp gq a ua b ub s w) (n : Nat) : JSt w0 gw gp gq a ua b ub s (w.drewN n) := by
 have hm : RdMv gp w (w.drewN n) := .drew n .refl
 obtain ⟨A, c, hb, hC, hc⟩ := h.p_.ex
 exact h.mvp hm ⟨A, c, blk_drewN hb n, hC, hc⟩
theorem JSt.kind_p (h : JSt w0 gw gp gq a ua b ub s w) : Calls Try.prog 99 #[.pointer (some ⟨gp, 0, none⟩)] w fun e w' => e = .returned (.int .i64 (kindL a)) ∧ w' = w := kind_calls w0 gp a ua w h.p_ h.bel
theorem JSt.kind_q (h : JSt w0 gw gp gq a ua b ub s w) : Calls Try.prog 99 #[.pointer (some ⟨gq, 0, none⟩)] w fun e w' => e = .returned (.int .i64 (kindL b)) ∧ w' = w := kind_calls w0 gq b ub w h.q_ h.bel
theorem JSt.left_p (h : JSt w0 gw gp gq a ua b ub s w) (hl : 0 < a.length) : Calls Try.prog 101 #[.pointer (some ⟨gp, 0, none⟩)] w fun e w' => e = .returned (.int .i64 (leftL a ua)) ∧ JSt w0 gw gp gq a ua b ub s w' :=
 (left_calls w0 gp a ua w h.p_ h.bel hl).mono (by rintro e w' ⟨rfl, n, rfl⟩; exact ⟨rfl, h.mvn n⟩)
theorem JSt.left_q (h : JSt w0 gw gp gq a ua b ub s w) (hl : 0 < b.length) : Calls Try.prog 101 #[.pointer (some ⟨gq, 0, none⟩)] w fun e w' => e = .returned (.int .i64 (leftL b ub)) ∧ JSt w0 gw gp gq a ua b ub s w' :=
 (left_calls w0 gq b ub w h.q_ h.bel hl).mono (by rintro e w' ⟨rfl, n, rfl⟩; exact ⟨rfl, h.mvn n⟩)
theorem JSt.take_p (h : JSt w0 gw gp gq a ua b ub s w) (n : Int) (hl : 0 < a.length) : Calls Try.prog 102 #[.pointer (some ⟨gp, 0, none⟩), .int .i64 n] w fun e w' => e = .returned (.tuple #[]) ∧ JSt w0 gw gp gq (takeL a ua n) (takeU a ua n) b ub s w' :=
 (take_calls w0 gp a ua n w h.lp h.p_ h.bel hl).mono (by rintro e w' ⟨rfl, hm, hr⟩; exact ⟨rfl, h.mvp hm hr⟩)
theorem JSt.take_q (h : JSt w0 gw gp gq a ua b ub s w) (n : Int) (hl : 0 < b.length) : Calls Try.prog 102 #[.pointer (some ⟨gq, 0, none⟩), .int .i64 n] w fun e w' => e = .returned (.tuple #[]) ∧ JSt w0 gw gp gq a ua (takeL b ub n) (takeU b ub n) s w' :=
 (take_calls w0 gq b ub n w h.lq h.q_ h.bel hl).mono (by rintro e w' ⟨rfl, hm, hr⟩; exact ⟨rfl, h.mvq hm hr⟩)
theorem JSt.put (h : JSt w0 gw gp gq a ua b ub s w) (kind n : Int) (hl : (s.out.length + 3) * 16 ≤ 140737488355328) : Calls Try.prog 100 #[.pointer (some ⟨gw, 0, none⟩), .int .i64 kind, .int .i64 n] w fun e w' => e = .returned (.tuple #[]) ∧ JSt w0 gw gp gq a ua b ub (putL s kind n) w' := by
 obtain ⟨v, hv⟩ := h.w_
 refine (put_calls w0 gw s kind n v w h.lw hv hl).mono ?_
 rintro e w' ⟨rfl, v', hv'⟩
 obtain ⟨A, c, hb, hC, hc⟩ := h.p_.ex
 obtain ⟨A2, c2, hb2, hC2, hc2⟩ := h.q_.ex
 exact ⟨rfl, ⟨v', ⟨hv'.blk, hv'.row, hv'.bel, Moves.refl _ _ _⟩⟩, hv'.mv.rd (Kd.R_ne hv.row hb (by decide)) h.p_ (fun e => h.wp e.symm), hv'.mv.rd (Kd.R_ne hv.row hb2 (by decide)) h.q_ (fun e => h.wq e.symm), h.wp, h.wq, h.pq, h.lw, h.lp, h.lq⟩
end
def mn (x y : Int) : Int := if y < x then y else x
def joinL : Nat → List S121 → Int → List S121 → Int → WS → Option WS
 | 0, _, _, _, _, _ => none
 | k + 1, a, ua, b, ub, s =>
  if 4398046511104 < s.out.length then none
  else if 0 ≤ kindL a ∨ 0 ≤ kindL b then
   if kindL a = 2 then joinL k (takeL a ua (leftL a ua)) (takeU a ua (leftL a ua)) b ub (putL s 2 (leftL a ua))
   else if kindL b = 1 then joinL k a ua (takeL b ub (leftL b ub)) (takeU b ub (leftL b ub)) (putL s 1 (leftL b ub))
   else if kindL a < 0 ∨ b.length = 0 then none
   else joinL k (takeL a ua (mn (leftL a ua) (leftL b ub))) (takeU a ua (mn (leftL a ua) (leftL b ub))) (takeL b ub (mn (leftL a ua) (leftL b ub))) (takeU b ub (mn (leftL a ua) (leftL b ub)))
    (if kindL a = 0 then putL s (kindL b) (mn (leftL a ua) (leftL b ub)) else if kindL b = 0 then putL s 1 (mn (leftL a ua) (leftL b ub)) else s)
  else some s
theorem joinL_mono : ∀ (k : Nat) (a : List S121) (ua : Int) (b : List S121) (ub : Int) (s : WS), LeO (joinL k a ua b ub s) (joinL (k + 1) a ua b ub s)
 | 0, _, _, _, _, _ => fun r h => by cases h
 | k + 1, a, ua, b, ub, s => by
  rw [joinL, joinL]
  exact LeO.ite (LeO.refl _) (LeO.ite (LeO.ite (joinL_mono k _ _ _ _ _) (LeO.ite (joinL_mono k _ _ _ _ _) (LeO.ite (LeO.refl _) (joinL_mono k _ _ _ _ _)))) (LeO.refl _))
theorem kindL_pos {l : List S121} (h : 0 ≤ kindL l) : 0 < l.length := by
 unfold kindL at h
 split at h <;> omega
def joinF (k : Nat) (a b : List S121) : Option (List S121 × Int) :=
 (axis_Check.f k a).bind fun e => if e ≠ 0 then some ([], e) else (axis_Check.f k b).bind fun e' => if e' ≠ 0 then some ([], e') else
  (axis_lengths.f k a).bind fun n => (axis_lengths.f k b).bind fun m => if m.1 ≠ n.2 then some ([], 14) else (joinL k a 0 b 0 ⟨[], 0, 0⟩).bind fun s => if 4398046511104 < s.out.length then none else doneF k s
end Go.Proofs.Ytlcodfjlbhjkbaa.PDelta.Ax
end
section
namespace Go.Proofs.Ytlcodfjlbhjkbaa.PDelta.Ax
open Go.RowKit Go.Proofs.YtlcodfjlbhjkbaaW.PrintWords Go.Proofs.YtlcodfjlbhjkbaaW.PrintLast Go.Proofs.YtlcodfjlbhjkbaaW.PrintMore
attribute [local go_sem] max2_int min2_int max_two min_two
theorem jst_new {w w4 : World} {A0 A1 : Option Addr} {c0 c1 : Nat} {l0 l1 : List S121} (hB : Below w.heap.size w w4) (hr0 : Kd.C k121 w A0 l0.length l0) (hc0 : l0.length ≤ c0) (hr1 : Kd.C k121 w A1 l1.length l1) (hc1 : l1.length ≤ c1) :
  JSt w w4.heap.size (w4.heap.size + 1) (w4.heap.size + 1 + 1) l0 0 l1 0 ⟨[], 0, 0⟩ (((w4.alloc (Obj.cells #[Value.slice none 0 0, Value.int IntKind.i64 0, Value.int IntKind.i64 0] 168 (0, 0))).alloc (Obj.cells #[Value.slice A0 l0.length c0, Value.int IntKind.i64 0] 171 (0, 0))).alloc (Obj.cells #[Value.slice A1 l1.length c1, Value.int IntKind.i64 0] 171 (0, 0))) := by
 have hs := hB.size
 have b0 : (w4.alloc (Obj.cells #[Value.slice none 0 0, Value.int IntKind.i64 0, Value.int IntKind.i64 0] 168 (0, 0))).heap[w4.heap.size]? = some (Obj.cells #[Value.slice none 0 0, Value.int IntKind.i64 0, Value.int IntKind.i64 0] 168 (0, 0)) := blk_new w4 _
 refine ⟨⟨.slice none 0 0, blk_alloc (blk_alloc b0 _) _, Kd.R_nil _ _ _ _ _, below_alloc (below_alloc (below_alloc hB _) _) _, Moves.refl _ _ _⟩, ⟨A0, c0, blk_alloc ?_ _, hr0, hc0⟩, ⟨A1, c1, ?_, hr1, hc1⟩, by omega, by omega, by omega, hs, by omega, by omega⟩
 ·have := blk_new (w4.alloc (Obj.cells #[Value.slice none 0 0, Value.int IntKind.i64 0, Value.int IntKind.i64 0] 168 (0, 0))) (Obj.cells #[Value.slice A0 l0.length c0, Value.int IntKind.i64 0] 171 (0, 0))
  rwa [Go.Deep.nblk_alloc] at this
 ·have := blk_new ((w4.alloc (Obj.cells #[Value.slice none 0 0, Value.int IntKind.i64 0, Value.int IntKind.i64 0] 168 (0, 0))).alloc (Obj.cells #[Value.slice A0 l0.length c0, Value.int IntKind.i64 0] 171 (0, 0))) (Obj.cells #[Value.slice A1 l1.length c1, Value.int IntKind.i64 0] 171 (0, 0))
  rwa [Go.Deep.nblk_alloc, Go.Deep.nblk_alloc] at this
set_option maxRecDepth 100000 in
set_option maxHeartbeats 16000000 in
theorem join_calls (k : Nat) (A0 : Option Addr) (c0 : Nat) (l0 : List (S121)) (A1 : Option Addr) (c1 : Nat) (l1 : List (S121)) (r1 : List (S121)) (r2 : Int) (w : World) (hr0 : Kd.C k121 w A0 l0.length l0) (hc0 : l0.length ≤ c0) (hr1 : Kd.C k121 w A1 l1.length l1) (hc1 : l1.length ≤ c1) (h : joinF k l0 l1 = some (r1, r2)) :
  Calls Try.prog 66 #[.slice A0 l0.length c0, .slice A1 l1.length c1] w fun e w' => ∃ v0_ : Value, e = .returned (.tuple #[v0_, .int .i64 r2]) ∧ Kd.R k121 121 w' w.heap.size (fun _ => True) v0_ r1 ∧ Below w.heap.size w w' := by
 have hu121 := Try.underlying121
 have hu168 := Try.underlying168
 have hu171 := Try.underlying171
 have HR0 := Aside0.mk hr0
 have HC0 := Aside0.mk hc0
 have HR1 := Aside0.mk hr1
 have HC1 := Aside0.mk hc1
 clear hr0 hr1 hc0 hc1
 rw [joinF] at h
 replace h := Option.bind_eq_some_iff.1 h
 obtain ⟨e, he, h⟩ := h
 have HE := Aside0.mk he
 clear he
 by_cases d1 : e ≠ 0
 ·rw [if_pos d1] at h
  have d1b : (e != 0) = true := bne_iff_ne.mpr d1
  simp only [Option.some.injEq, Prod.mk.injEq] at h
  obtain ⟨rfl, rfl⟩ := h
  clear d1
  go_enter Try.func66, Try.ntmps66
  go_wp2_with (go_at_call 69; (with_reducible refine (axis_Check.calls k _ _ l0 e _ HR0.out HC0.out HE.out).mono ?_); rintro e1 w1 ⟨rfl, hb⟩; have HB1 := Aside0.mk hb; clear hb)
  first | go_ret | go_ret2
  exact ⟨_, rfl, Kd.R_nil _ _ _ _ _, HB1.out⟩
 rw [if_neg d1] at h
 have d1b : (e != 0) = false := by simpa using d1
 clear d1
 replace h := Option.bind_eq_some_iff.1 h
 obtain ⟨e', he', h⟩ := h
 have HE' := Aside0.mk he'
 clear he'
 by_cases d2 : e' ≠ 0
 ·rw [if_pos d2] at h
  have d2b : (e' != 0) = true := bne_iff_ne.mpr d2
  simp only [Option.some.injEq, Prod.mk.injEq] at h
  obtain ⟨rfl, rfl⟩ := h
  clear d2
  go_enter Try.func66, Try.ntmps66
  go_wp2_with (go_at_call 69; (with_reducible refine (axis_Check.calls k _ _ l0 e _ HR0.out HC0.out HE.out).mono ?_); rintro e1 w1 ⟨rfl, hb⟩; have HB1 := Aside0.mk hb; clear hb)
  go_wp2_with (go_at_call 69; (with_reducible refine (axis_Check.calls k _ _ l1 e' _ (Kd.C_below HR1.out HB1.out) HC1.out HE'.out).mono ?_); rintro e1 w2 ⟨rfl, hb⟩; have HB2 := Aside0.mk (below_step HB1.out hb); clear hb)
  first | go_ret | go_ret2
  exact ⟨_, rfl, Kd.R_nil _ _ _ _ _, HB2.out⟩
 rw [if_neg d2] at h
 have d2b : (e' != 0) = false := by simpa using d2
 clear d2
 replace h := Option.bind_eq_some_iff.1 h
 obtain ⟨⟨x1, x2⟩, hx, h⟩ := h
 have HX := Aside0.mk hx
 replace h := Option.bind_eq_some_iff.1 h
 obtain ⟨⟨y1, y2⟩, hy, h⟩ := h
 have HY := Aside0.mk hy
 clear hx hy
 by_cases d3 : y1 ≠ x2
 ·rw [if_pos d3] at h
  have d3b : (y1 != x2) = true := bne_iff_ne.mpr d3
  simp only [Option.some.injEq, Prod.mk.injEq] at h
  obtain ⟨rfl, rfl⟩ := h
  clear d3
  go_enter Try.func66, Try.ntmps66
  go_wp2_with (go_at_call 69; (with_reducible refine (axis_Check.calls k _ _ l0 e _ HR0.out HC0.out HE.out).mono ?_); rintro e1 w1 ⟨rfl, hb⟩; have HB1 := Aside0.mk hb; clear hb)
  go_wp2_with (go_at_call 69; (with_reducible refine (axis_Check.calls k _ _ l1 e' _ (Kd.C_below HR1.out HB1.out) HC1.out HE'.out).mono ?_); rintro e1 w2 ⟨rfl, hb⟩; have HB2 := Aside0.mk (below_step HB1.out hb); clear hb)
  go_wp2_with (go_at_call 70; (with_reducible refine (axis_lengths.calls k _ _ l0 x1 x2 _ (Kd.C_below HR0.out HB2.out) HC0.out HX.out).mono ?_); rintro e1 w3 ⟨rfl, hb⟩; have HB3 := Aside0.mk (below_step HB2.out hb); clear hb)
  go_wp2_with (go_at_call 70; (with_reducible refine (axis_lengths.calls k _ _ l1 y1 y2 _ (Kd.C_below HR1.out HB3.out) HC1.out HY.out).mono ?_); rintro e1 w4 ⟨rfl, hb⟩; have HB4 := Aside0.mk (below_step HB3.out hb); clear hb)
  first | go_ret | go_ret2
  exact ⟨_, rfl, Kd.R_nil _ _ _ _ _, HB4.out⟩
 rw [if_neg d3] at h
 have d3b : (y1 != x2) = false := by simpa using d3
 clear d3
 replace h := Option.bind_eq_some_iff.1 h
 obtain ⟨s, hs, h⟩ := h
 have HS := Aside0.mk hs
 by_cases d4 : 4398046511104 < s.out.length
 ·rw [if_pos d4] at h
  cases h
 rw [if_neg d4] at h
 have HD := Aside0.mk h
 have H4 := Aside0.mk d4
 clear h hs d4
 go_enter Try.func66, Try.ntmps66
 go_wp2_with (go_at_call 69; (with_reducible refine (axis_Check.calls k _ _ l0 e _ HR0.out HC0.out HE.out).mono ?_); rintro e1 w1 ⟨rfl, hb⟩; have HB1 := Aside0.mk hb; clear hb)
 go_wp2_with (go_at_call 69; (with_reducible refine (axis_Check.calls k _ _ l1 e' _ (Kd.C_below HR1.out HB1.out) HC1.out HE'.out).mono ?_); rintro e1 w2 ⟨rfl, hb⟩; have HB2 := Aside0.mk (below_step HB1.out hb); clear hb)
 go_wp2_with (go_at_call 70; (with_reducible refine (axis_lengths.calls k _ _ l0 x1 x2 _ (Kd.C_below HR0.out HB2.out) HC0.out HX.out).mono ?_); rintro e1 w3 ⟨rfl, hb⟩; have HB3 := Aside0.mk (below_step HB2.out hb); clear hb)
 go_wp2_with (go_at_call 70; (with_reducible refine (axis_lengths.calls k _ _ l1 y1 y2 _ (Kd.C_below HR1.out HB3.out) HC1.out HY.out).mono ?_); rintro e1 w4 ⟨rfl, hb⟩; have HB4 := Aside0.mk (below_step HB3.out hb); clear hb)
 have hJ0 : JSt w w4.heap.size (w4.heap.size + 1) (w4.heap.size + 1 + 1) l0 0 l1 0 ⟨[], 0, 0⟩ (((w4.alloc (Obj.cells #[Value.slice none 0 0, Value.int IntKind.i64 0, Value.int IntKind.i64 0] 168 (0, 0))).alloc (Obj.cells #[Value.slice A0 l0.length c0, Value.int IntKind.i64 0] 171 (0, 0))).alloc (Obj.cells #[Value.slice A1 l1.length c1, Value.int IntKind.i64 0] 171 (0, 0))) :=
  jst_new HB4.out HR0.out HC0.out HR1.out HC1.out
 have HJ0 := Aside0.mk hJ0
 clear hJ0
 obtain ⟨gw, hgw⟩ : ∃ g, g = w4.heap.size := ⟨_, rfl⟩
 obtain ⟨gp, hgp⟩ : ∃ g, g = w4.heap.size + 1 := ⟨_, rfl⟩
 obtain ⟨gq, hgq⟩ : ∃ g, g = w4.heap.size + 1 + 1 := ⟨_, rfl⟩
 rw [← hgq, ← hgp, ← hgw] at HJ0
 rw [← hgq, ← hgp, ← hgw]
 clear hgw hgp hgq
 go_loopg [] k (fun m wr => ∃ (a : List S121) (ua : Int) (b : List S121) (ub : Int) (z : WS), Aside0 (JSt w gw gp gq a ua b ub z wr) ∧ Aside0 (joinL m a ua b ub z = some s))
 case atStart => exact ⟨l0, 0, l1, 0, ⟨[], 0, 0⟩, HJ0, HS⟩
 case round =>
  clear HJ0 HS
  obtain ⟨a, ua, b, ub, z, HJ, HL⟩ := hrel
  obtain ⟨gl, rfl⟩ : ∃ gl, gk = gl + 1 := by
   cases gk with
   | zero => exact absurd HL.out (by simp [joinL])
   | succ n => exact ⟨n, rfl⟩
  have hL := HL.out
  rw [joinL] at hL
  by_cases d5 : 4398046511104 < z.out.length
  ·rw [if_pos d5] at hL
   cases hL
  rw [if_neg d5] at hL
  have HZ := Aside0.mk (show (z.out.length + 3) * 16 ≤ 140737488355328 by omega)
  clear d5 HL
  by_cases d6 : 0 ≤ kindL a ∨ 0 ≤ kindL b
  rotate_left
  ·rw [if_neg d6] at hL
   have f1 : decide (0 ≤ kindL a) = false := decide_eq_false (fun h => d6 (.inl h))
   have f2 : decide (0 ≤ kindL b) = false := decide_eq_false (fun h => d6 (.inr h))
   injection hL with hL
   subst hL
   clear d6
   go_wp2_with (first | (go_at_call 99; (with_reducible refine HJ.out.kind_p.mono ?_); rintro e1 w5 ⟨rfl, rfl⟩) | (go_at_call 99; (with_reducible refine HJ.out.kind_q.mono ?_); rintro e1 w5 ⟨rfl, rfl⟩) | (go_at_call 103; (obtain ⟨v, hv⟩ := HJ.out.w_); (with_reducible refine (done_calls k w gw z r1 r2 v _ HJ.out.lw hv HZ.out HD.out).mono ?_); rintro e1 w6 ⟨v6, rfl, hR, hB, hM⟩; obtain ⟨A9, n9, hv9⟩ := Kd.R_slice hR; subst hv9; have HR9 := Aside0.mk hR; have HB9 := Aside0.mk hB; clear hR hB hM hv))
   first | go_ret | go_ret2
   exact ⟨_, rfl, HR9.out, HB9.out⟩
  rw [if_pos d6] at hL
  by_cases d7 : kindL a = 2
  ·rw [if_pos d7] at hL
   have HL := Aside0.mk hL
   have f1 : decide (0 ≤ kindL a) = true := decide_eq_true (by omega)
   have f2 : (kindL a == 2) = true := beq_iff_eq.mpr d7
   have HAL := Aside0.mk (kindL_pos (l := a) (by omega))
   clear hL d6 d7
   go_wp2_with (first | (go_at_call 99; (with_reducible refine HJ.out.kind_p.mono ?_); rintro e1 w5 ⟨rfl, rfl⟩) | (go_at_call 99; (with_reducible refine HJ.out.kind_q.mono ?_); rintro e1 w5 ⟨rfl, rfl⟩))
   go_wp2_with (go_at_call 101; (with_reducible refine (HJ.out.left_p HAL.out).mono ?_); rintro e1 w6 ⟨rfl, hJ⟩; clear HJ; have HJ := Aside0.mk hJ; clear hJ)
   go_wp2_with (go_at_call 100; (with_reducible refine (HJ.out.put 2 (leftL a ua) HZ.out).mono ?_); rintro e1 w6 ⟨rfl, hJ⟩; clear HJ; have HJ := Aside0.mk hJ; clear hJ)
   go_wp2_with (go_at_call 101; (with_reducible refine (HJ.out.left_p HAL.out).mono ?_); rintro e1 w6 ⟨rfl, hJ⟩; clear HJ; have HJ := Aside0.mk hJ; clear hJ)
   go_wp2_with (go_at_call 102; (with_reducible refine (HJ.out.take_p (leftL a ua) HAL.out).mono ?_); rintro e1 w6 ⟨rfl, hJ⟩; clear HJ; have HJ := Aside0.mk hJ; clear hJ)
   go_roundg gl
   case measure => exact Nat.lt_succ_self _
   case rel => exact ⟨_, _, _, _, _, HJ, HL⟩
  rw [if_neg d7] at hL
  have f3 : (kindL a == 2) = false := beq_eq_false_iff_ne.mpr d7
  clear d7
  by_cases d8 : kindL b = 1
  ·rw [if_pos d8] at hL
   have HL := Aside0.mk hL
   have f2 : (kindL b == 1) = true := beq_iff_eq.mpr d8
   have f1 : decide (0 ≤ kindL b) = true := decide_eq_true (by omega)
   have HBL := Aside0.mk (kindL_pos (l := b) (by omega))
   clear hL d6 d8
   cases f4 : decide (0 ≤ kindL a) with
   | false =>
    go_wp2_with (first | (go_at_call 99; (with_reducible refine HJ.out.kind_p.mono ?_); rintro e1 w5 ⟨rfl, rfl⟩) | (go_at_call 99; (with_reducible refine HJ.out.kind_q.mono ?_); rintro e1 w5 ⟨rfl, rfl⟩))
    go_wp2_with (go_at_call 101; (with_reducible refine (HJ.out.left_q HBL.out).mono ?_); rintro e1 w6 ⟨rfl, hJ⟩; clear HJ; have HJ := Aside0.mk hJ; clear hJ)
    go_wp2_with (go_at_call 100; (with_reducible refine (HJ.out.put 1 (leftL b ub) HZ.out).mono ?_); rintro e1 w6 ⟨rfl, hJ⟩; clear HJ; have HJ := Aside0.mk hJ; clear hJ)
    go_wp2_with (go_at_call 101; (with_reducible refine (HJ.out.left_q HBL.out).mono ?_); rintro e1 w6 ⟨rfl, hJ⟩; clear HJ; have HJ := Aside0.mk hJ; clear hJ)
    go_wp2_with (go_at_call 102; (with_reducible refine (HJ.out.take_q (leftL b ub) HBL.out).mono ?_); rintro e1 w6 ⟨rfl, hJ⟩; clear HJ; have HJ := Aside0.mk hJ; clear hJ)
    go_roundg gl
    case measure => exact Nat.lt_succ_self _
    case rel => exact ⟨_, _, _, _, _, HJ, HL⟩
   | true =>
    go_wp2_with (first | (go_at_call 99; (with_reducible refine HJ.out.kind_p.mono ?_); rintro e1 w5 ⟨rfl, rfl⟩) | (go_at_call 99; (with_reducible refine HJ.out.kind_q.mono ?_); rintro e1 w5 ⟨rfl, rfl⟩))
    go_wp2_with (go_at_call 101; (with_reducible refine (HJ.out.left_q HBL.out).mono ?_); rintro e1 w6 ⟨rfl, hJ⟩; clear HJ; have HJ := Aside0.mk hJ; clear hJ)
    go_wp2_with (go_at_call 100; (with_reducible refine (HJ.out.put 1 (leftL b ub) HZ.out).mono ?_); rintro e1 w6 ⟨rfl, hJ⟩; clear HJ; have HJ := Aside0.mk hJ; clear hJ)
    go_wp2_with (go_at_call 101; (with_reducible refine (HJ.out.left_q HBL.out).mono ?_); rintro e1 w6 ⟨rfl, hJ⟩; clear HJ; have HJ := Aside0.mk hJ; clear hJ)
    go_wp2_with (go_at_call 102; (with_reducible refine (HJ.out.take_q (leftL b ub) HBL.out).mono ?_); rintro e1 w6 ⟨rfl, hJ⟩; clear HJ; have HJ := Aside0.mk hJ; clear hJ)
    go_roundg gl
    case measure => exact Nat.lt_succ_self _
    case rel => exact ⟨_, _, _, _, _, HJ, HL⟩
  rw [if_neg d8] at hL
  have f4 : (kindL b == 1) = false := beq_eq_false_iff_ne.mpr d8
  by_cases d9 : kindL a < 0 ∨ b.length = 0
  ·rw [if_pos d9] at hL
   cases hL
  rw [if_neg d9] at hL
  have f1 : decide (0 ≤ kindL a) = true := decide_eq_true (by omega)
  have HAL := Aside0.mk (kindL_pos (l := a) (by omega))
  have HBL := Aside0.mk (show 0 < b.length by omega)
  clear d6 d8 d9
  obtain ⟨n, hn⟩ : ∃ n, (if leftL b ub < leftL a ua then leftL b ub else leftL a ua) = n := ⟨_, rfl⟩
  rw [show mn (leftL a ua) (leftL b ub) = n from hn] at hL
  by_cases d10 : kindL a = 0
  ·rw [if_pos d10] at hL
   have HL := Aside0.mk hL
   have f5 : (kindL a == 0) = true := beq_iff_eq.mpr d10
   clear hL d10
   go_wp2_with (first | (go_at_call 99; (with_reducible refine HJ.out.kind_p.mono ?_); rintro e1 w5 ⟨rfl, rfl⟩) | (go_at_call 99; (with_reducible refine HJ.out.kind_q.mono ?_); rintro e1 w5 ⟨rfl, rfl⟩))
   go_wp2_with (go_at_call 101; (with_reducible refine (HJ.out.left_p HAL.out).mono ?_); rintro e1 w6 ⟨rfl, hJ⟩; clear HJ; have HJ := Aside0.mk hJ; clear hJ)
   go_wp2_with (go_at_call 101; (with_reducible refine (HJ.out.left_q HBL.out).mono ?_); rintro e1 w6 ⟨rfl, hJ⟩; clear HJ; have HJ := Aside0.mk hJ; clear hJ)
   go_wp2_with (first | (go_at_call 99; (with_reducible refine HJ.out.kind_p.mono ?_); rintro e1 w5 ⟨rfl, rfl⟩) | (go_at_call 99; (with_reducible refine HJ.out.kind_q.mono ?_); rintro e1 w5 ⟨rfl, rfl⟩))
   go_wp2_with (go_at_call 100; (with_reducible refine (HJ.out.put (kindL b) n HZ.out).mono ?_); rintro e1 w6 ⟨rfl, hJ⟩; clear HJ; have HJ := Aside0.mk hJ; clear hJ)
   go_wp2_with (go_at_call 102; (with_reducible refine (HJ.out.take_p n HAL.out).mono ?_); rintro e1 w6 ⟨rfl, hJ⟩; clear HJ; have HJ := Aside0.mk hJ; clear hJ)
   go_wp2_with (go_at_call 102; (with_reducible refine (HJ.out.take_q n HBL.out).mono ?_); rintro e1 w6 ⟨rfl, hJ⟩; clear HJ; have HJ := Aside0.mk hJ; clear hJ)
   go_roundg gl
   case measure => exact Nat.lt_succ_self _
   case rel => exact ⟨_, _, _, _, _, HJ, HL⟩
  rw [if_neg d10] at hL
  have f5 : (kindL a == 0) = false := beq_eq_false_iff_ne.mpr d10
  clear d10
  by_cases d11 : kindL b = 0
  ·rw [if_pos d11] at hL
   have HL := Aside0.mk hL
   have f6 : (kindL b == 0) = true := beq_iff_eq.mpr d11
   clear hL d11
   go_wp2_with (first | (go_at_call 99; (with_reducible refine HJ.out.kind_p.mono ?_); rintro e1 w5 ⟨rfl, rfl⟩) | (go_at_call 99; (with_reducible refine HJ.out.kind_q.mono ?_); rintro e1 w5 ⟨rfl, rfl⟩))
   go_wp2_with (go_at_call 101; (with_reducible refine (HJ.out.left_p HAL.out).mono ?_); rintro e1 w6 ⟨rfl, hJ⟩; clear HJ; have HJ := Aside0.mk hJ; clear hJ)
   go_wp2_with (go_at_call 101; (with_reducible refine (HJ.out.left_q HBL.out).mono ?_); rintro e1 w6 ⟨rfl, hJ⟩; clear HJ; have HJ := Aside0.mk hJ; clear hJ)
   go_wp2_with (first | (go_at_call 99; (with_reducible refine HJ.out.kind_p.mono ?_); rintro e1 w5 ⟨rfl, rfl⟩) | (go_at_call 99; (with_reducible refine HJ.out.kind_q.mono ?_); rintro e1 w5 ⟨rfl, rfl⟩))
   go_wp2_with (go_at_call 100; (with_reducible refine (HJ.out.put 1 n HZ.out).mono ?_); rintro e1 w6 ⟨rfl, hJ⟩; clear HJ; have HJ := Aside0.mk hJ; clear hJ)
   go_wp2_with (go_at_call 102; (with_reducible refine (HJ.out.take_p n HAL.out).mono ?_); rintro e1 w6 ⟨rfl, hJ⟩; clear HJ; have HJ := Aside0.mk hJ; clear hJ)
   go_wp2_with (go_at_call 102; (with_reducible refine (HJ.out.take_q n HBL.out).mono ?_); rintro e1 w6 ⟨rfl, hJ⟩; clear HJ; have HJ := Aside0.mk hJ; clear hJ)
   go_roundg gl
   case measure => exact Nat.lt_succ_self _
   case rel => exact ⟨_, _, _, _, _, HJ, HL⟩
  ·rw [if_neg d11] at hL
   have HL := Aside0.mk hL
   have f6 : (kindL b == 0) = false := beq_eq_false_iff_ne.mpr d11
   clear hL d11
   go_wp2_with (first | (go_at_call 99; (with_reducible refine HJ.out.kind_p.mono ?_); rintro e1 w5 ⟨rfl, rfl⟩) | (go_at_call 99; (with_reducible refine HJ.out.kind_q.mono ?_); rintro e1 w5 ⟨rfl, rfl⟩))
   go_wp2_with (go_at_call 101; (with_reducible refine (HJ.out.left_p HAL.out).mono ?_); rintro e1 w6 ⟨rfl, hJ⟩; clear HJ; have HJ := Aside0.mk hJ; clear hJ)
   go_wp2_with (go_at_call 101; (with_reducible refine (HJ.out.left_q HBL.out).mono ?_); rintro e1 w6 ⟨rfl, hJ⟩; clear HJ; have HJ := Aside0.mk hJ; clear hJ)
   go_wp2_with (first | (go_at_call 99; (with_reducible refine HJ.out.kind_p.mono ?_); rintro e1 w5 ⟨rfl, rfl⟩) | (go_at_call 99; (with_reducible refine HJ.out.kind_q.mono ?_); rintro e1 w5 ⟨rfl, rfl⟩))
   go_wp2_with (go_at_call 102; (with_reducible refine (HJ.out.take_p n HAL.out).mono ?_); rintro e1 w6 ⟨rfl, hJ⟩; clear HJ; have HJ := Aside0.mk hJ; clear hJ)
   go_wp2_with (go_at_call 102; (with_reducible refine (HJ.out.take_q n HBL.out).mono ?_); rintro e1 w6 ⟨rfl, hJ⟩; clear HJ; have HJ := Aside0.mk hJ; clear hJ)
   go_roundg gl
   case measure => exact Nat.lt_succ_self _
   case rel => exact ⟨_, _, _, _, _, HJ, HL⟩
end Go.Proofs.Ytlcodfjlbhjkbaa.PDelta.Ax
end
section
namespace Go.Proofs.Ytlcodfjlbhjkbaa.PDelta.Ax
open Go.RowKit Go.Proofs.YtlcodfjlbhjkbaaW.PrintWords Go.Proofs.YtlcodfjlbhjkbaaW.PrintLast Go.Proofs.YtlcodfjlbhjkbaaW.PrintMore
def axis_Join.f (k : Nat) (l0 l1 : List S121) : Option (List S121 × Int) := joinF k l0 l1
theorem axis_Join.mono : ∀ a0 a1 k, LeO (axis_Join.f k a0 a1) (axis_Join.f (k + 1) a0 a1) := by
 intro a b k
 refine LeO.bind (axis_Check.mono _ k) (fun e => LeO.ite (LeO.refl _) (LeO.bind (axis_Check.mono _ k) (fun e' => LeO.ite (LeO.refl _) (LeO.bind (axis_lengths.mono _ k) (fun n => LeO.bind (axis_lengths.mono _ k) (fun m => LeO.ite (LeO.refl _) (LeO.bind (joinL_mono k _ _ _ _ _) (fun s => LeO.ite (LeO.refl _) (doneF_mono s k)))))))))
theorem axis_Join.calls (k : Nat) (A0 : Option Addr) (c0 : Nat) (l0 : List (S121)) (A1 : Option Addr) (c1 : Nat) (l1 : List (S121)) (r1 : List (S121)) (r2 : Int) (w : World) (hr0 : Kd.C k121 w A0 l0.length l0) (hc0 : l0.length ≤ c0) (hr1 : Kd.C k121 w A1 l1.length l1) (hc1 : l1.length ≤ c1) (h : axis_Join.f k l0 l1 = some (r1, r2)) :
  Calls Try.prog 66 #[.slice A0 l0.length c0, .slice A1 l1.length c1] w fun e w' => ∃ v0_ : Value, e = .returned (.tuple #[v0_, .int .i64 r2]) ∧ Kd.R k121 121 w' w.heap.size (fun _ => True) v0_ r1 ∧ Below w.heap.size w w' := join_calls k A0 c0 l0 A1 c1 l1 r1 r2 w hr0 hc0 hr1 hc1 h
end Go.Proofs.Ytlcodfjlbhjkbaa.PDelta.Ax
end
section
namespace Go.Proofs.Ytlcodfjlbhjkbaa.PDelta
open Go.RowKit Go.Proofs.YtlcodfjlbhjkbaaW.PrintWords Go.Proofs.YtlcodfjlbhjkbaaW.PrintLast Go.Proofs.YtlcodfjlbhjkbaaW.PrintMore
def axis_Join.f (k : Nat) (l0 l1 : List S121) : Option (List S121 × Int) := Ax.axis_Join.f k l0 l1
theorem axis_Join.mono : ∀ a0 a1 k, LeO (axis_Join.f k a0 a1) (axis_Join.f (k + 1) a0 a1) := Ax.axis_Join.mono
theorem axis_Join.calls (k : Nat) (A0 : Option Addr) (c0 : Nat) (l0 : List (S121)) (A1 : Option Addr) (c1 : Nat) (l1 : List (S121)) (r1 : List (S121)) (r2 : Int) (w : World) (hr0 : Kd.C k121 w A0 l0.length l0) (hc0 : l0.length ≤ c0) (hr1 : Kd.C k121 w A1 l1.length l1) (hc1 : l1.length ≤ c1) (h : axis_Join.f k l0 l1 = some (r1, r2)) :
  Calls Try.prog 66 #[.slice A0 l0.length c0, .slice A1 l1.length c1] w fun e w' => ∃ v0_ : Value, e = .returned (.tuple #[v0_, .int .i64 r2]) ∧ Kd.R k121 121 w' w.heap.size (fun _ => True) v0_ r1 ∧ Below w.heap.size w w' := Ax.axis_Join.calls k A0 c0 l0 A1 c1 l1 r1 r2 w hr0 hc0 hr1 hc1 h
end Go.Proofs.Ytlcodfjlbhjkbaa.PDelta
end
section
namespace Go.Proofs.Ytlcodfjlbhjkbaa.PDelta
open Go.RowKit Go.Proofs.YtlcodfjlbhjkbaaW.PrintWords Go.Proofs.YtlcodfjlbhjkbaaW.PrintLast Go.Proofs.YtlcodfjlbhjkbaaW.PrintMore
attribute [local go_sem] max2_int min2_int max_two min_two max_three min_three max_four min_four
attribute [local go_sem high] Go.Proofs.Ytlcodfjlbhjkbaa.Ord.leq_str Go.Proofs.Ytlcodfjlbhjkbaa.Ord.gtr_str Go.Proofs.Ytlcodfjlbhjkbaa.Ord.geq_str
noncomputable section
attribute [local go_sem high] eqA121
def chancerykeep1_axes.f (k : Nat)  : Option (Bool) := (axis_Join.f k (([(⟨0, 1⟩ : S121), (⟨1, 2⟩ : S121)] : List (S121))) (([(⟨0, 2⟩ : S121), (⟨2, 1⟩ : S121)] : List (S121)))).bind fun bt342 => (if bt342.2 = 0 then (if (bt342.1.length : Int) = 2 then (if 1 < (bt342.1.length : Int) then (some (((rd_T121 bt342.1 1).f0) == 1 && (((rd_T121 bt342.1 1).f1) == 1))) else (none)) else (some false)) else (some false))
theorem chancerykeep1_axes.mono : ∀ k, LeO (chancerykeep1_axes.f k ) (chancerykeep1_axes.f (k + 1) ) := by
 intro  k
 unfold chancerykeep1_axes.f
 repeat' first
   | (with_reducible exact axis_Join.mono _ _ _)
   | (with_reducible exact LeO.refl _)
   | (with_reducible exact LeO.none _)
   | (with_reducible refine LeO.ite ?_ ?_)
   | (with_reducible refine LeO.bind ?_ (fun _ => ?_))
   | exact axis_Join.mono _ _ _
   | exact LeO.none _
   | refine LeO.ite ?_ ?_
   | refine LeO.bind ?_ (fun _ => ?_)
set_option maxHeartbeats 8000000 in
set_option maxRecDepth 100000 in
theorem chancerykeep1_axes.calls (k : Nat)  (r : Bool) (w : World) (h : chancerykeep1_axes.f k  = some r) :
  Calls Try.prog 31 #[] w fun e w' => e = .returned (.bool r) ∧ Below w.heap.size w w' := by
 have hu121 := Try.underlying121
 have HB := Aside0.mk (Below.refl w.heap.size w)
 have H : ((axis_Join.f k (([(⟨0, 1⟩ : S121), (⟨1, 2⟩ : S121)] : List (S121))) (([(⟨0, 2⟩ : S121), (⟨2, 1⟩ : S121)] : List (S121)))).bind fun bt342 => (if bt342.2 = 0 then (if (bt342.1.length : Int) = 2 then (if 1 < (bt342.1.length : Int) then (some (((rd_T121 bt342.1 1).f0) == 1 && (((rd_T121 bt342.1 1).f1) == 1))) else (none)) else (some false)) else (some false))) = some r := h
 clear h
 obtain ⟨y336, hy336⟩ : ∃ y_ : List (S121), y_ = (([(⟨0, 1⟩ : S121), (⟨1, 2⟩ : S121)] : List (S121))) := ⟨_, rfl⟩
 replace H : ((axis_Join.f k y336 (([(⟨0, 2⟩ : S121), (⟨2, 1⟩ : S121)] : List (S121)))).bind fun bt342 => (if bt342.2 = 0 then (if (bt342.1.length : Int) = 2 then (if 1 < (bt342.1.length : Int) then (some (((rd_T121 bt342.1 1).f0) == 1 && (((rd_T121 bt342.1 1).f1) == 1))) else (none)) else (some false)) else (some false))) = some r := by first | (rw [hy336]; with_reducible exact H) | (have H2_ := (Option.bind_some _ _).symm.trans H; rw [hy336]; with_reducible exact H2_) | (have H2_ := (Option.bind_some _ _).symm.trans H; with_reducible exact H2_) | with_reducible exact H | (rw [hy336]; exact H) | exact H
 have Ny336 := Aside0.mk hy336
 clear hy336
 obtain ⟨y339, hy339⟩ : ∃ y_ : List (S121), y_ = (([(⟨0, 2⟩ : S121), (⟨2, 1⟩ : S121)] : List (S121))) := ⟨_, rfl⟩
 replace H : ((axis_Join.f k y336 y339).bind fun bt342 => (if bt342.2 = 0 then (if (bt342.1.length : Int) = 2 then (if 1 < (bt342.1.length : Int) then (some (((rd_T121 bt342.1 1).f0) == 1 && (((rd_T121 bt342.1 1).f1) == 1))) else (none)) else (some false)) else (some false))) = some r := by first | (rw [hy339]; with_reducible exact H) | (have H2_ := (Option.bind_some _ _).symm.trans H; rw [hy339]; with_reducible exact H2_) | (have H2_ := (Option.bind_some _ _).symm.trans H; with_reducible exact H2_) | with_reducible exact H | (rw [hy339]; exact H) | exact H
 have Ny339 := Aside0.mk hy339
 clear hy339
 replace H := Option.bind_eq_some_iff.mp H
 obtain ⟨⟨t342, t343⟩, A10, H⟩ := H
 replace H : (if t343 = 0 then (if (t342.length : Int) = 2 then (if 1 < (t342.length : Int) then (some (((rd_T121 t342 1).f0) == 1 && (((rd_T121 t342 1).f1) == 1))) else (none)) else (some false)) else (some false)) = some r := H
 have A1 := Aside0.mk A10
 clear A10
 by_cases c2 : t343 = 0
 ·rw [if_pos c2] at H
  have c2b0 : (t343 == 0) = true := beq_iff_eq.mpr c2
  have c2b1 : (t343 != 0) = false := bne_eq_false_iff_eq.mpr c2
  clear c2
  by_cases c3 : (t342.length : Int) = 2
  ·rw [if_pos c3] at H
   have c3b0 : ((t342.length : Int) == 2) = true := beq_iff_eq.mpr c3
   have c3b1 : ((t342.length : Int) != 2) = false := bne_eq_false_iff_eq.mpr c3
   clear c3
   by_cases c4 : 1 < (t342.length : Int)
   ·rw [if_pos c4] at H
    have c4b0 : decide (1 < (t342.length : Int)) = true := decide_eq_true c4
    have c4b1 : decide (1 < t342.length) = true := decide_eq_true (by omega)
    clear c4
    obtain rfl := Option.some.inj H
    go_enter Try.func31, Try.ntmps31
    go_wp2_with (first | ((with_reducible refine gate_dst (N := 6) rfl ?_); (try (refine gate_guard (by rfl) ?_; dsimp only)); refine Kd.R_lit k121 _ 121 ?hg (N := 6) ?hd (xs := ([(⟨0, 1⟩ : S121), (⟨1, 2⟩ : S121)] : List (S121))) (inner := [.int .i64 0, .int .i64 1, .int .i64 1, .int .i64 2]) (ok := fun _ => True) (okp := fun _ => True) ?hr ?hp (fun _ hk => hk) trivial (Below.refl _ _) (Nat.le_refl _) (by simp) ?_; (case hd => rfl); (case hg => rfl); (case hr => first | (go_simp; done) | (go_simp; rfl)); (case hp => exact (Reps.c2 (show Kd.M k121 _ _ _ (⟨0, 1⟩ : S121) [.int .i64 0, .int .i64 1] from (k121_mkM _ _ _ (⟨0, 1⟩ : S121) )) (Reps.c2 (show Kd.M k121 _ _ _ (⟨1, 2⟩ : S121) [.int .i64 1, .int .i64 2] from (k121_mkM _ _ _ (⟨1, 2⟩ : S121) )) (Reps.none _ _)))); intro v337 w5 ho6 hb hg_ hnew_; clear hg_ hnew_; (first | rw [← Ny336.out] at ho6 | (simp only [Int.reduceToNat] at ho6; rw [← Ny336.out] at ho6)); have n0_ := Aside0.mk (Kd.R_lower ho6 (below_size (by with_reducible repeat first | exact HB.out | apply below_alloc | apply pw_below_drewN | apply below_drew1))); have n1_ := Aside0.mk (below_step (by with_reducible repeat first | exact HB.out | apply below_alloc | apply pw_below_drewN | apply below_drew1) hb); clear HB; have HO338 := n0_; have HB := n1_; clear n0_ n1_; clear hb ho6) | ((with_reducible refine gate_dst (N := 9) rfl ?_); (try (refine gate_guard (by rfl) ?_; dsimp only)); refine Kd.R_lit k121 _ 121 ?hg (N := 9) ?hd (xs := ([(⟨0, 2⟩ : S121), (⟨2, 1⟩ : S121)] : List (S121))) (inner := [.int .i64 0, .int .i64 2, .int .i64 2, .int .i64 1]) (ok := fun _ => True) (okp := fun _ => True) ?hr ?hp (fun _ hk => hk) trivial (Below.refl _ _) (Nat.le_refl _) (by simp) ?_; (case hd => rfl); (case hg => rfl); (case hr => first | (go_simp; done) | (go_simp; rfl)); (case hp => exact (Reps.c2 (show Kd.M k121 _ _ _ (⟨0, 2⟩ : S121) [.int .i64 0, .int .i64 2] from (k121_mkM _ _ _ (⟨0, 2⟩ : S121) )) (Reps.c2 (show Kd.M k121 _ _ _ (⟨2, 1⟩ : S121) [.int .i64 2, .int .i64 1] from (k121_mkM _ _ _ (⟨2, 1⟩ : S121) )) (Reps.none _ _)))); intro v340 w7 ho8 hb hg_ hnew_; clear hg_ hnew_; (first | rw [← Ny339.out] at ho8 | (simp only [Int.reduceToNat] at ho8; rw [← Ny339.out] at ho8)); have n0_ := Aside0.mk (Kd.R_elder' (by (with_reducible repeat (first | apply Kd.R_alloc | apply Kd.R_drewN | apply Kd.R_drew)); exact HO338.out) (Kd.R_base ho8) hb); have n1_ := Aside0.mk (Kd.R_lower (Kd.R_new' ho8 (Kd.R_lt (by (with_reducible repeat (first | apply Kd.R_alloc | apply Kd.R_drewN | apply Kd.R_drew)); exact HO338.out))) (below_size (by with_reducible repeat first | exact HB.out | apply below_alloc | apply pw_below_drewN | apply below_drew1))); have n2_ := Aside0.mk (below_step (by with_reducible repeat first | exact HB.out | apply below_alloc | apply pw_below_drewN | apply below_drew1) hb); clear HO338; clear HB; have HO338 := n0_; have HO341 := n1_; have HB := n2_; clear n0_ n1_ n2_; clear hb ho8; obtain ⟨Ao9, co9, eo9⟩ := Kd.R_slice HO338.out; subst eo9; obtain ⟨Ao10, co10, eo10⟩ := Kd.R_slice HO341.out; subst eo10) | ((with_reducible refine gate_callee (f := 66) rfl ?_); refine goesL_ (some 10) rfl rfl Try.func66 (by kernel_rfl) rfl #[.slice Ao9 y336.length co9, .slice Ao10 y339.length co10] rfl (by (try simp only [List.map_toArray, List.map_cons, List.map_nil]); first | done | rfl | (simp only [List.length_drop, List.length_take]; rfl)) ?_; (with_reducible refine (axis_Join.calls k _ _ y336 _ _ y339 t342 t343 _ ?side1 ?side2 ?side3 ?side4 A1.out).mono ?_); (case side1 => repeat (first | exact (Kd.R_reads' HO338.out).2.2 | (with_reducible refine Kd.C_alloc ?_ _) | (with_reducible refine Kd.C_drewN ?_ _) | (with_reducible refine Kd.C_drew ?_))); (case side2 => exact (Kd.R_reads' HO338.out).2.1); (case side3 => repeat (first | exact (Kd.R_reads' HO341.out).2.2 | (with_reducible refine Kd.C_alloc ?_ _) | (with_reducible refine Kd.C_drewN ?_ _) | (with_reducible refine Kd.C_drew ?_))); (case side4 => exact (Kd.R_reads' HO341.out).2.1); rintro e w11 ⟨v344, rfl, ho0, hb⟩; refine ⟨_, rfl, ?_⟩; have n0_ := Aside0.mk (Kd.R_elder' (by (with_reducible repeat (first | apply Kd.R_alloc | apply Kd.R_drewN | apply Kd.R_drew)); exact HO338.out) (Kd.R_base ho0) hb); have n1_ := Aside0.mk (Kd.R_elder' (by (with_reducible repeat (first | apply Kd.R_alloc | apply Kd.R_drewN | apply Kd.R_drew)); exact HO341.out) (Kd.R_base ho0) hb); have n2_ := Aside0.mk (Kd.R_lower (Kd.R_new' (Kd.R_new' ho0 (Kd.R_lt (by (with_reducible repeat (first | apply Kd.R_alloc | apply Kd.R_drewN | apply Kd.R_drew)); exact HO338.out))) (Kd.R_lt (by (with_reducible repeat (first | apply Kd.R_alloc | apply Kd.R_drewN | apply Kd.R_drew)); exact HO341.out))) (below_size (by with_reducible repeat first | exact HB.out | apply below_alloc | apply pw_below_drewN | apply below_drew1))); have n3_ := Aside0.mk (below_step (by with_reducible repeat first | exact HB.out | apply below_alloc | apply pw_below_drewN | apply below_drew1) hb); clear HO338; clear HO341; clear HB; have HO338 := n0_; have HO341 := n1_; have HO345 := n2_; have HB := n3_; clear n0_ n1_ n2_ n3_; (try clear hb); (try clear hb2); (try clear hk); (try clear hi); (try clear ho0); obtain ⟨Ao12, co12, eo12⟩ := Kd.R_slice HO345.out; subst eo12; have p346 : 0 ≤ (1 : Int) := (by omega); have q346 : 1 < (t342.length : Int) := of_decide_eq_true (by assumption); obtain ⟨ad346, e346, hx346_0, hx346_1⟩ := at_T121 (Kd.R_reads' HO345.out).2.2 1 p346 q346; cases e346; (try simp only [show (1 : Int).toNat = 1 from rfl, Nat.reduceMul, Nat.reduceEqDiff, Go.Addr.add, ↓reduceIte] at hx346_0); (try simp only [show (1 : Int).toNat = 1 from rfl, Nat.reduceMul, Nat.reduceEqDiff, Go.Addr.add, ↓reduceIte] at hx346_1); have qi346 : (1 < t342.length) = True := eq_true (by omega); (try rw [show ((1 : Int)).toNat = 1 from rfl] at hx346_0); (try rw [show 1 * 2 = 2 from rfl] at hx346_0); (try rw [show ((1 : Int)).toNat = 1 from rfl] at hx346_1); (try rw [show 1 * 2 = 2 from rfl] at hx346_1); replace p346 := eq_true p346; replace q346 := eq_true q346))
    go_ret
    exact ⟨by first | rfl | (simp [errW_none, errW_some] <;> rfl) | (simp [*, errW_none, errW_some] <;> rfl), by repeat (first | (with_reducible first | exact HB.out | apply below_alloc | apply pw_below_drewN | apply below_drew1) | exact HB.out)⟩
   ·rw [if_neg c4] at H
    exact absurd H (by simp)
  ·rw [if_neg c3] at H
   have c3b0 : ((t342.length : Int) == 2) = false := beq_eq_false_iff_ne.mpr c3
   have c3b1 : ((t342.length : Int) != 2) = true := bne_iff_ne.mpr c3
   obtain rfl := Option.some.inj H
   go_enter Try.func31, Try.ntmps31
   go_wp2_with (first | ((with_reducible refine gate_dst (N := 6) rfl ?_); (try (refine gate_guard (by rfl) ?_; dsimp only)); refine Kd.R_lit k121 _ 121 ?hg (N := 6) ?hd (xs := ([(⟨0, 1⟩ : S121), (⟨1, 2⟩ : S121)] : List (S121))) (inner := [.int .i64 0, .int .i64 1, .int .i64 1, .int .i64 2]) (ok := fun _ => True) (okp := fun _ => True) ?hr ?hp (fun _ hk => hk) trivial (Below.refl _ _) (Nat.le_refl _) (by simp) ?_; (case hd => rfl); (case hg => rfl); (case hr => first | (go_simp; done) | (go_simp; rfl)); (case hp => exact (Reps.c2 (show Kd.M k121 _ _ _ (⟨0, 1⟩ : S121) [.int .i64 0, .int .i64 1] from (k121_mkM _ _ _ (⟨0, 1⟩ : S121) )) (Reps.c2 (show Kd.M k121 _ _ _ (⟨1, 2⟩ : S121) [.int .i64 1, .int .i64 2] from (k121_mkM _ _ _ (⟨1, 2⟩ : S121) )) (Reps.none _ _)))); intro v337 w13 ho14 hb hg_ hnew_; clear hg_ hnew_; (first | rw [← Ny336.out] at ho14 | (simp only [Int.reduceToNat] at ho14; rw [← Ny336.out] at ho14)); have n0_ := Aside0.mk (Kd.R_lower ho14 (below_size (by with_reducible repeat first | exact HB.out | apply below_alloc | apply pw_below_drewN | apply below_drew1))); have n1_ := Aside0.mk (below_step (by with_reducible repeat first | exact HB.out | apply below_alloc | apply pw_below_drewN | apply below_drew1) hb); clear HB; have HO338 := n0_; have HB := n1_; clear n0_ n1_; clear hb ho14) | ((with_reducible refine gate_dst (N := 9) rfl ?_); (try (refine gate_guard (by rfl) ?_; dsimp only)); refine Kd.R_lit k121 _ 121 ?hg (N := 9) ?hd (xs := ([(⟨0, 2⟩ : S121), (⟨2, 1⟩ : S121)] : List (S121))) (inner := [.int .i64 0, .int .i64 2, .int .i64 2, .int .i64 1]) (ok := fun _ => True) (okp := fun _ => True) ?hr ?hp (fun _ hk => hk) trivial (Below.refl _ _) (Nat.le_refl _) (by simp) ?_; (case hd => rfl); (case hg => rfl); (case hr => first | (go_simp; done) | (go_simp; rfl)); (case hp => exact (Reps.c2 (show Kd.M k121 _ _ _ (⟨0, 2⟩ : S121) [.int .i64 0, .int .i64 2] from (k121_mkM _ _ _ (⟨0, 2⟩ : S121) )) (Reps.c2 (show Kd.M k121 _ _ _ (⟨2, 1⟩ : S121) [.int .i64 2, .int .i64 1] from (k121_mkM _ _ _ (⟨2, 1⟩ : S121) )) (Reps.none _ _)))); intro v340 w15 ho16 hb hg_ hnew_; clear hg_ hnew_; (first | rw [← Ny339.out] at ho16 | (simp only [Int.reduceToNat] at ho16; rw [← Ny339.out] at ho16)); have n0_ := Aside0.mk (Kd.R_elder' (by (with_reducible repeat (first | apply Kd.R_alloc | apply Kd.R_drewN | apply Kd.R_drew)); exact HO338.out) (Kd.R_base ho16) hb); have n1_ := Aside0.mk (Kd.R_lower (Kd.R_new' ho16 (Kd.R_lt (by (with_reducible repeat (first | apply Kd.R_alloc | apply Kd.R_drewN | apply Kd.R_drew)); exact HO338.out))) (below_size (by with_reducible repeat first | exact HB.out | apply below_alloc | apply pw_below_drewN | apply below_drew1))); have n2_ := Aside0.mk (below_step (by with_reducible repeat first | exact HB.out | apply below_alloc | apply pw_below_drewN | apply below_drew1) hb); clear HO338; clear HB; have HO338 := n0_; have HO341 := n1_; have HB := n2_; clear n0_ n1_ n2_; clear hb ho16; obtain ⟨Ao17, co17, eo17⟩ := Kd.R_slice HO338.out; subst eo17; obtain ⟨Ao18, co18, eo18⟩ := Kd.R_slice HO341.out; subst eo18) | ((with_reducible refine gate_callee (f := 66) rfl ?_); refine goesL_ (some 10) rfl rfl Try.func66 (by kernel_rfl) rfl #[.slice Ao17 y336.length co17, .slice Ao18 y339.length co18] rfl (by (try simp only [List.map_toArray, List.map_cons, List.map_nil]); first | done | rfl | (simp only [List.length_drop, List.length_take]; rfl)) ?_; (with_reducible refine (axis_Join.calls k _ _ y336 _ _ y339 t342 t343 _ ?side1 ?side2 ?side3 ?side4 A1.out).mono ?_); (case side1 => repeat (first | exact (Kd.R_reads' HO338.out).2.2 | (with_reducible refine Kd.C_alloc ?_ _) | (with_reducible refine Kd.C_drewN ?_ _) | (with_reducible refine Kd.C_drew ?_))); (case side2 => exact (Kd.R_reads' HO338.out).2.1); (case side3 => repeat (first | exact (Kd.R_reads' HO341.out).2.2 | (with_reducible refine Kd.C_alloc ?_ _) | (with_reducible refine Kd.C_drewN ?_ _) | (with_reducible refine Kd.C_drew ?_))); (case side4 => exact (Kd.R_reads' HO341.out).2.1); rintro e w19 ⟨v344, rfl, ho0, hb⟩; refine ⟨_, rfl, ?_⟩; have n0_ := Aside0.mk (Kd.R_elder' (by (with_reducible repeat (first | apply Kd.R_alloc | apply Kd.R_drewN | apply Kd.R_drew)); exact HO338.out) (Kd.R_base ho0) hb); have n1_ := Aside0.mk (Kd.R_elder' (by (with_reducible repeat (first | apply Kd.R_alloc | apply Kd.R_drewN | apply Kd.R_drew)); exact HO341.out) (Kd.R_base ho0) hb); have n2_ := Aside0.mk (Kd.R_lower (Kd.R_new' (Kd.R_new' ho0 (Kd.R_lt (by (with_reducible repeat (first | apply Kd.R_alloc | apply Kd.R_drewN | apply Kd.R_drew)); exact HO338.out))) (Kd.R_lt (by (with_reducible repeat (first | apply Kd.R_alloc | apply Kd.R_drewN | apply Kd.R_drew)); exact HO341.out))) (below_size (by with_reducible repeat first | exact HB.out | apply below_alloc | apply pw_below_drewN | apply below_drew1))); have n3_ := Aside0.mk (below_step (by with_reducible repeat first | exact HB.out | apply below_alloc | apply pw_below_drewN | apply below_drew1) hb); clear HO338; clear HO341; clear HB; have HO338 := n0_; have HO341 := n1_; have HO345 := n2_; have HB := n3_; clear n0_ n1_ n2_ n3_; (try clear hb); (try clear hb2); (try clear hk); (try clear hi); (try clear ho0); obtain ⟨Ao20, co20, eo20⟩ := Kd.R_slice HO345.out; subst eo20))
   go_ret
   exact ⟨by first | rfl | (simp [errW_none, errW_some] <;> rfl) | (simp [*, errW_none, errW_some] <;> rfl), by repeat (first | (with_reducible first | exact HB.out | apply below_alloc | apply pw_below_drewN | apply below_drew1) | exact HB.out)⟩
 ·rw [if_neg c2] at H
  have c2b0 : (t343 == 0) = false := beq_eq_false_iff_ne.mpr c2
  have c2b1 : (t343 != 0) = true := bne_iff_ne.mpr c2
  obtain rfl := Option.some.inj H
  go_enter Try.func31, Try.ntmps31
  go_wp2_with (first | ((with_reducible refine gate_dst (N := 6) rfl ?_); (try (refine gate_guard (by rfl) ?_; dsimp only)); refine Kd.R_lit k121 _ 121 ?hg (N := 6) ?hd (xs := ([(⟨0, 1⟩ : S121), (⟨1, 2⟩ : S121)] : List (S121))) (inner := [.int .i64 0, .int .i64 1, .int .i64 1, .int .i64 2]) (ok := fun _ => True) (okp := fun _ => True) ?hr ?hp (fun _ hk => hk) trivial (Below.refl _ _) (Nat.le_refl _) (by simp) ?_; (case hd => rfl); (case hg => rfl); (case hr => first | (go_simp; done) | (go_simp; rfl)); (case hp => exact (Reps.c2 (show Kd.M k121 _ _ _ (⟨0, 1⟩ : S121) [.int .i64 0, .int .i64 1] from (k121_mkM _ _ _ (⟨0, 1⟩ : S121) )) (Reps.c2 (show Kd.M k121 _ _ _ (⟨1, 2⟩ : S121) [.int .i64 1, .int .i64 2] from (k121_mkM _ _ _ (⟨1, 2⟩ : S121) )) (Reps.none _ _)))); intro v337 w21 ho22 hb hg_ hnew_; clear hg_ hnew_; (first | rw [← Ny336.out] at ho22 | (simp only [Int.reduceToNat] at ho22; rw [← Ny336.out] at ho22)); have n0_ := Aside0.mk (Kd.R_lower ho22 (below_size (by with_reducible repeat first | exact HB.out | apply below_alloc | apply pw_below_drewN | apply below_drew1))); have n1_ := Aside0.mk (below_step (by with_reducible repeat first | exact HB.out | apply below_alloc | apply pw_below_drewN | apply below_drew1) hb); clear HB; have HO338 := n0_; have HB := n1_; clear n0_ n1_; clear hb ho22) | ((with_reducible refine gate_dst (N := 9) rfl ?_); (try (refine gate_guard (by rfl) ?_; dsimp only)); refine Kd.R_lit k121 _ 121 ?hg (N := 9) ?hd (xs := ([(⟨0, 2⟩ : S121), (⟨2, 1⟩ : S121)] : List (S121))) (inner := [.int .i64 0, .int .i64 2, .int .i64 2, .int .i64 1]) (ok := fun _ => True) (okp := fun _ => True) ?hr ?hp (fun _ hk => hk) trivial (Below.refl _ _) (Nat.le_refl _) (by simp) ?_; (case hd => rfl); (case hg => rfl); (case hr => first | (go_simp; done) | (go_simp; rfl)); (case hp => exact (Reps.c2 (show Kd.M k121 _ _ _ (⟨0, 2⟩ : S121) [.int .i64 0, .int .i64 2] from (k121_mkM _ _ _ (⟨0, 2⟩ : S121) )) (Reps.c2 (show Kd.M k121 _ _ _ (⟨2, 1⟩ : S121) [.int .i64 2, .int .i64 1] from (k121_mkM _ _ _ (⟨2, 1⟩ : S121) )) (Reps.none _ _)))); intro v340 w23 ho24 hb hg_ hnew_; clear hg_ hnew_; (first | rw [← Ny339.out] at ho24 | (simp only [Int.reduceToNat] at ho24; rw [← Ny339.out] at ho24)); have n0_ := Aside0.mk (Kd.R_elder' (by (with_reducible repeat (first | apply Kd.R_alloc | apply Kd.R_drewN | apply Kd.R_drew)); exact HO338.out) (Kd.R_base ho24) hb); have n1_ := Aside0.mk (Kd.R_lower (Kd.R_new' ho24 (Kd.R_lt (by (with_reducible repeat (first | apply Kd.R_alloc | apply Kd.R_drewN | apply Kd.R_drew)); exact HO338.out))) (below_size (by with_reducible repeat first | exact HB.out | apply below_alloc | apply pw_below_drewN | apply below_drew1))); have n2_ := Aside0.mk (below_step (by with_reducible repeat first | exact HB.out | apply below_alloc | apply pw_below_drewN | apply below_drew1) hb); clear HO338; clear HB; have HO338 := n0_; have HO341 := n1_; have HB := n2_; clear n0_ n1_ n2_; clear hb ho24; obtain ⟨Ao25, co25, eo25⟩ := Kd.R_slice HO338.out; subst eo25; obtain ⟨Ao26, co26, eo26⟩ := Kd.R_slice HO341.out; subst eo26) | ((with_reducible refine gate_callee (f := 66) rfl ?_); refine goesL_ (some 10) rfl rfl Try.func66 (by kernel_rfl) rfl #[.slice Ao25 y336.length co25, .slice Ao26 y339.length co26] rfl (by (try simp only [List.map_toArray, List.map_cons, List.map_nil]); first | done | rfl | (simp only [List.length_drop, List.length_take]; rfl)) ?_; (with_reducible refine (axis_Join.calls k _ _ y336 _ _ y339 t342 t343 _ ?side1 ?side2 ?side3 ?side4 A1.out).mono ?_); (case side1 => repeat (first | exact (Kd.R_reads' HO338.out).2.2 | (with_reducible refine Kd.C_alloc ?_ _) | (with_reducible refine Kd.C_drewN ?_ _) | (with_reducible refine Kd.C_drew ?_))); (case side2 => exact (Kd.R_reads' HO338.out).2.1); (case side3 => repeat (first | exact (Kd.R_reads' HO341.out).2.2 | (with_reducible refine Kd.C_alloc ?_ _) | (with_reducible refine Kd.C_drewN ?_ _) | (with_reducible refine Kd.C_drew ?_))); (case side4 => exact (Kd.R_reads' HO341.out).2.1); rintro e w27 ⟨v344, rfl, ho0, hb⟩; refine ⟨_, rfl, ?_⟩; have n0_ := Aside0.mk (Kd.R_elder' (by (with_reducible repeat (first | apply Kd.R_alloc | apply Kd.R_drewN | apply Kd.R_drew)); exact HO338.out) (Kd.R_base ho0) hb); have n1_ := Aside0.mk (Kd.R_elder' (by (with_reducible repeat (first | apply Kd.R_alloc | apply Kd.R_drewN | apply Kd.R_drew)); exact HO341.out) (Kd.R_base ho0) hb); have n2_ := Aside0.mk (Kd.R_lower (Kd.R_new' (Kd.R_new' ho0 (Kd.R_lt (by (with_reducible repeat (first | apply Kd.R_alloc | apply Kd.R_drewN | apply Kd.R_drew)); exact HO338.out))) (Kd.R_lt (by (with_reducible repeat (first | apply Kd.R_alloc | apply Kd.R_drewN | apply Kd.R_drew)); exact HO341.out))) (below_size (by with_reducible repeat first | exact HB.out | apply below_alloc | apply pw_below_drewN | apply below_drew1))); have n3_ := Aside0.mk (below_step (by with_reducible repeat first | exact HB.out | apply below_alloc | apply pw_below_drewN | apply below_drew1) hb); clear HO338; clear HO341; clear HB; have HO338 := n0_; have HO341 := n1_; have HO345 := n2_; have HB := n3_; clear n0_ n1_ n2_ n3_; (try clear hb); (try clear hb2); (try clear hk); (try clear hi); (try clear ho0)))
  go_ret
  exact ⟨by first | rfl | (simp [errW_none, errW_some] <;> rfl) | (simp [*, errW_none, errW_some] <;> rfl), by repeat (first | (with_reducible first | exact HB.out | apply below_alloc | apply pw_below_drewN | apply below_drew1) | exact HB.out)⟩
end
end Go.Proofs.Ytlcodfjlbhjkbaa.PDelta
end
section
namespace Go.Proofs.Ytlcodfjlbhjkbaa.PDelta
open Go.RowKit Go.Proofs.YtlcodfjlbhjkbaaW.PrintWords Go.Proofs.YtlcodfjlbhjkbaaW.PrintLast Go.Proofs.YtlcodfjlbhjkbaaW.PrintMore
attribute [local go_sem] max2_int min2_int max_two min_two max_three min_three max_four min_four
attribute [local go_sem high] Go.Proofs.Ytlcodfjlbhjkbaa.Ord.leq_str Go.Proofs.Ytlcodfjlbhjkbaa.Ord.gtr_str Go.Proofs.Ytlcodfjlbhjkbaa.Ord.geq_str
def delta_Axis.l0 : Nat → List (S121) → List (S95) → Int → Int → Option ((List (S121)) × Int)
 | 0, _, _, _, _ => none
 | k + 1, x5, x14, x15, x16 => if x16 < x15 then (if 0 ≤ x16 then (if x16 < (x14.length : Int) then (if ((rd_T95 x14 x16).f0) = 0 then (if (wrap64 ((x5.length : Int) - 1)) ≥ 0 then (if 0 ≤ (wrap64 ((x5.length : Int) - 1)) then (if (wrap64 ((x5.length : Int) - 1)) < (x5.length : Int) then (if ((rd_T121 x5 (wrap64 ((x5.length : Int) - 1))).f0) = 0 then (delta_Axis.l0 k (x5.set ((wrap64 ((x5.length : Int) - 1)) : Int).toNat (⟨(rd_T121 x5 (wrap64 ((x5.length : Int) - 1))).f0, wrap64 (((rd_T121 x5 (wrap64 ((x5.length : Int) - 1))).f1) + ((rd_T95 x14 x16).f1))⟩ : S121)) x14 x15 (wrap64 (x16 + 1))) else ((delta_size.f ((rd_T95 x14 x16).f0) ((rd_T95 x14 x16).f1) ((rd_T95 x14 x16).f2) ((rd_T95 x14 x16).f3)).bind fun t450 => (if x5.length < 8796093022208 then (delta_Axis.l0 k (x5 ++ [(⟨(rd_T95 x14 x16).f0, t450⟩ : S121)]) x14 x15 (wrap64 (x16 + 1))) else (none)))) else (none)) else (none)) else ((delta_size.f ((rd_T95 x14 x16).f0) ((rd_T95 x14 x16).f1) ((rd_T95 x14 x16).f2) ((rd_T95 x14 x16).f3)).bind fun t454 => (if x5.length < 8796093022208 then (delta_Axis.l0 k (x5 ++ [(⟨(rd_T95 x14 x16).f0, t454⟩ : S121)]) x14 x15 (wrap64 (x16 + 1))) else (none)))) else ((delta_size.f ((rd_T95 x14 x16).f0) ((rd_T95 x14 x16).f1) ((rd_T95 x14 x16).f2) ((rd_T95 x14 x16).f3)).bind fun t458 => (if x5.length < 8796093022208 then (delta_Axis.l0 k (x5 ++ [(⟨(rd_T95 x14 x16).f0, t458⟩ : S121)]) x14 x15 (wrap64 (x16 + 1))) else (none)))) else (none)) else (none)) else (some (x5, 0))
def delta_Axis.f (k : Nat) (l0 : List (S95)) : Option ((List (S121)) × Int) := (delta_Check.f k l0).bind fun t444 => (if t444 = 0 then (delta_Axis.l0 k ([] : List (S121)) l0 (l0.length : Int) 0) else (some (([] : List (S121)), t444)))
def delta_Axis.T10 : Bool × List (List Nat × List Nat) := (true, [([], []), ([], []), ([0, 1], [0, 1]), ([2], [2]), ([3], [3]), ([], []), ([5], [5]), ([4, 6], [4, 6]), ([0, 1, 0, 1, 2, 3, 4, 5, 6, 7], [0, 1]), ([8, 0, 1, 2, 3, 4, 5, 6, 7], [8]), ([9, 7, 0, 1, 2, 3, 4, 5, 6, 7], [7, 9])])
def delta_Axis.B10 : List Nat := [0, 0, 3, 7, 15, 0, 32, 127, 255, 511, 1023]
theorem delta_Axis.tab10 : rtab .any (opsOf Try.f32 10) = delta_Axis.T10 := by kernel_rfl
theorem delta_Axis.bits10 : waitsOk delta_Axis.T10.2 delta_Axis.B10 = true := by kernel_rfl
def delta_Axis.T11 : Bool × List (List Nat × List Nat) := (true, [([], []), ([], []), ([1], [1]), ([], []), ([3], [3]), ([2, 4], [2, 4]), ([5], [5]), ([0, 6, 4], [0, 6]), ([7, 7, 0, 1, 2, 3, 4, 5, 6, 7], [0, 7])])
def delta_Axis.B11 : List Nat := [0, 0, 2, 0, 8, 30, 62, 127, 255]
theorem delta_Axis.tab11 : rtab .any (opsOf Try.f32 11) = delta_Axis.T11 := by kernel_rfl
theorem delta_Axis.bits11 : waitsOk delta_Axis.T11.2 delta_Axis.B11 = true := by kernel_rfl
set_option maxHeartbeats 8000000 in
set_option maxRecDepth 100000 in
theorem delta_Axis.calls (k : Nat) (A0 : Option Addr) (c0 : Nat) (l0 : List (S95)) (r1 : List (S121)) (r2 : Int) (w : World) (hr0 : Kd.C k95 w A0 l0.length l0) (hc0 : l0.length ≤ c0) (h : delta_Axis.f k l0 = some (r1, r2)) :
  Calls Try.prog 32 #[.slice A0 l0.length c0] w fun e w' => ∃ v0_ : Value, e = .returned (.tuple #[v0_, .int .i64 r2]) ∧ Kd.R k121 121 w' w.heap.size (fun _ => True) v0_ r1 ∧ Below w.heap.size w w' := by
 have hu95 := Try.underlying95
 have hu121 := Try.underlying121
 have HR0 := Aside0.mk hr0
 have HC0 := Aside0.mk hc0
 clear hr0 hc0
 have HB := Aside0.mk (Below.refl w.heap.size w)
 have H : ((delta_Check.f k l0).bind fun t444 => (if t444 = 0 then (delta_Axis.l0 k ([] : List (S121)) l0 (l0.length : Int) 0) else (some (([] : List (S121)), t444)))) = some (r1, r2) := h
 clear h
 replace H := Option.bind_eq_some_iff.mp H
 obtain ⟨t444, A20, H⟩ := H
 replace H : (if t444 = 0 then (delta_Axis.l0 k ([] : List (S121)) l0 (l0.length : Int) 0) else (some (([] : List (S121)), t444))) = some (r1, r2) := H
 have A2 := Aside0.mk A20
 clear A20
 by_cases c3 : t444 = 0
 ·rw [if_pos c3] at H
  have c3b0 : (t444 == 0) = true := beq_iff_eq.mpr c3
  have c3b1 : (t444 != 0) = false := bne_eq_false_iff_eq.mpr c3
  clear c3
  have H' := Aside0.mk H
  clear H
  go_enter Try.func32, Try.ntmps32
  go_wp2_with (first | ((with_reducible refine gate_callee (f := 67) rfl ?_); refine goesL_ (some 10) rfl rfl Try.func67 (by kernel_rfl) rfl #[.slice A0 l0.length c0] rfl (by (try simp only [List.map_toArray, List.map_cons, List.map_nil]); first | done | rfl | (simp only [List.length_drop, List.length_take]; rfl)) ?_; (with_reducible refine (delta_Check.calls k _ _ l0 t444 _ ?side1 ?side2 A2.out).mono ?_); (case side1 => repeat (first | exact HR0.out | (with_reducible refine Kd.C_alloc ?_ _) | (with_reducible refine Kd.C_drewN ?_ _) | (with_reducible refine Kd.C_drew ?_))); (case side2 => exact HC0.out); rintro e w4 ⟨rfl, hb⟩; refine ⟨_, rfl, ?_⟩; replace HB := Aside0.mk (below_step (by with_reducible repeat first | exact HB.out | apply below_alloc | apply pw_below_drewN | apply below_drew1) hb); (try clear hb); (try clear hb2); (try clear hk); (try clear hi)))
  go_loopg [5, 16] k (fun kq v5 v16 w' => ∃ (x5_1 : List (S121)) (x16_1 : Int), v16 = .int .i64 x16_1 ∧ Aside0 (delta_Axis.l0 kq x5_1 l0 (l0.length : Int) x16_1 = some (r1, r2)) ∧ Aside0 (kq ≤ k) ∧ Aside0 (Kd.R k121 121 w' w.heap.size (fun _ => True) v5 x5_1) ∧ Aside0 (Below w.heap.size w w'))
  case atStart => exact ⟨(([] : List (S121))), (0), (by first | rfl | (simp; done) | (simp [*]; done)), H', ⟨Nat.le_refl _⟩, ⟨by first | exact Kd.R_nil _ _ _ _ _ | exact Kd.N_nil _ _ _ _ _ | exact Kd.V_nil _ _ _ _ _ | exact Kd.Q_nil _ _ _ _ _ | exact Kd.S_nil _ _ _ _ _⟩, ⟨by repeat (first | (with_reducible first | exact HB.out | apply below_alloc | apply pw_below_drewN | apply below_drew1) | exact HB.out)⟩⟩
  case round =>
   clear H'
   try clear p2
   try clear c3
   try clear c3b0
   try clear c3b1
   obtain ⟨x5_1, x16_1, rfl, HA, HK1, HO_5, HB⟩ := hrel
   cases gk with
   | zero => exact absurd HA.out (by simp [delta_Axis.l0])
   | succ k1 =>
    have H := HA.out
    clear HA
    simp only [delta_Axis.l0] at H
    by_cases c5 : x16_1 < (l0.length : Int)
    ·rw [if_pos c5] at H
     have c5b0 : decide (x16_1 < (l0.length : Int)) = true := decide_eq_true c5
     clear c5
     by_cases c6 : 0 ≤ x16_1
     ·rw [if_pos c6] at H
      have c6b0 : decide (0 ≤ x16_1) = true := decide_eq_true c6
      clear c6
      by_cases c7 : x16_1 < (l0.length : Int)
      ·rw [if_pos c7] at H
       have c7b0 : decide (x16_1 < (l0.length : Int)) = true := decide_eq_true c7
       clear c7
       by_cases c8 : ((rd_T95 l0 x16_1).f0) = 0
       ·rw [if_pos c8] at H
        have c8b0 : (((rd_T95 l0 x16_1).f0) == 0) = true := beq_iff_eq.mpr c8
        have c8b1 : (((rd_T95 l0 x16_1).f0) != 0) = false := bne_eq_false_iff_eq.mpr c8
        clear c8
        by_cases c9 : (wrap64 ((x5_1.length : Int) - 1)) ≥ 0
        ·rw [if_pos c9] at H
         have c9b0 : decide (0 ≤ (wrap64 ((x5_1.length : Int) - 1))) = true := decide_eq_true c9
         clear c9
         obtain ⟨ji10, hji10⟩ : ∃ j_ : Int, (wrap64 ((x5_1.length : Int) - 1)) = j_ := ⟨_, rfl⟩
         replace H : (if 0 ≤ (ji10) then (if (ji10) < (x5_1.length : Int) then (if ((rd_T121 x5_1 (ji10)).f0) = 0 then (delta_Axis.l0 k1 (x5_1.set ((ji10) : Int).toNat (⟨(rd_T121 x5_1 (ji10)).f0, wrap64 (((rd_T121 x5_1 (ji10)).f1) + ((rd_T95 l0 x16_1).f1))⟩ : S121)) l0 (l0.length : Int) (wrap64 (x16_1 + 1))) else ((delta_size.f ((rd_T95 l0 x16_1).f0) ((rd_T95 l0 x16_1).f1) ((rd_T95 l0 x16_1).f2) ((rd_T95 l0 x16_1).f3)).bind fun t450 => (if x5_1.length < 8796093022208 then (delta_Axis.l0 k1 (x5_1 ++ [(⟨(rd_T95 l0 x16_1).f0, t450⟩ : S121)]) l0 (l0.length : Int) (wrap64 (x16_1 + 1))) else (none)))) else (none)) else (none)) = some (r1, r2) := by first | (rw [hji10] at H; exact H) | (simp only [hji10] at H ⊢; exact H)
         (try rw [hji10] at c9b0)
         have hji10w : (IntKind.i64.wrap ((x5_1.length : Int) - 1)) = ji10 := (i64_w _).trans hji10
         by_cases c11 : 0 ≤ (ji10)
         ·rw [if_pos c11] at H
          have c11b0 : decide (0 ≤ (ji10)) = true := decide_eq_true c11
          clear c11
          by_cases c12 : (ji10) < (x5_1.length : Int)
          ·rw [if_pos c12] at H
           have c12b0 : decide ((ji10) < (x5_1.length : Int)) = true := decide_eq_true c12
           clear c12
           by_cases c13 : ((rd_T121 x5_1 (ji10)).f0) = 0
           ·rw [if_pos c13] at H
            have c13b0 : (((rd_T121 x5_1 (ji10)).f0) == 0) = true := beq_iff_eq.mpr c13
            have c13b1 : (((rd_T121 x5_1 (ji10)).f0) != 0) = false := bne_eq_false_iff_eq.mpr c13
            clear c13
            obtain ⟨y449, hy449⟩ : ∃ y_ : List (S121), y_ = (x5_1.set ((ji10) : Int).toNat (⟨(rd_T121 x5_1 (ji10)).f0, wrap64 (((rd_T121 x5_1 (ji10)).f1) + ((rd_T95 l0 x16_1).f1))⟩ : S121)) := ⟨_, rfl⟩
            replace H : (delta_Axis.l0 k1 y449 l0 (l0.length : Int) (wrap64 (x16_1 + 1))) = some (r1, r2) := by first | (rw [hy449]; with_reducible exact H) | (have H2_ := (Option.bind_some _ _).symm.trans H; rw [hy449]; with_reducible exact H2_) | (have H2_ := (Option.bind_some _ _).symm.trans H; with_reducible exact H2_) | with_reducible exact H | (rw [hy449]; exact H) | exact H
            have Ny449 := Aside0.mk hy449
            clear hy449
            have H' := Aside0.mk H
            clear H
            have p445 : 0 ≤ (x16_1 : Int) := of_decide_eq_true (by assumption)
            have q445 : x16_1 < (l0.length : Int) := of_decide_eq_true (by assumption)
            obtain ⟨ad445, A445_2, c445_2, A445_3, c445_3, e445, hx445_0, hx445_1, hx445_2, hx445_3, hl445_2, hi445_2, hl445_3, hi445_3⟩ := at_T95 HR0.out x16_1 p445 q445
            cases e445
            replace hx445_0 := (HB.out.cell (World.block_lt_of_cell? w _ hx445_0)).trans hx445_0
            replace hx445_1 := (HB.out.cell (World.block_lt_of_cell? w _ hx445_1)).trans hx445_1
            replace hx445_2 := (HB.out.cell (World.block_lt_of_cell? w _ hx445_2)).trans hx445_2
            replace hx445_3 := (HB.out.cell (World.block_lt_of_cell? w _ hx445_3)).trans hx445_3
            have HR445_2 := Aside0.mk hi445_2
            have HC445_2 := Aside0.mk hl445_2
            clear hi445_2 hl445_2
            have HR445_3 := Aside0.mk hi445_3
            have HC445_3 := Aside0.mk hl445_3
            clear hi445_3 hl445_3
            replace p445 := eq_true p445
            replace q445 := eq_true q445
            try go_wp2_with (first | ((with_reducible refine gate_dst (N := 7) rfl ?_); refine box_event ?hg (N := 7) ?hd (cs := #[.int .i64 0, .int .i64 0, .slice none 0 0, .slice none 0 0]) (t := 95) ?hr ?_; (case hd => rfl); (case hg => rfl); (case hr => first | (go_simp; done) | (go_simp; rfl)); intro gb446 hg w15 hbox hb; have n0_ := Aside0.mk (Kd.R_below (by (with_reducible repeat (first | apply Kd.R_alloc | apply Kd.R_drewN | apply Kd.R_drew)); exact HO_5.out) hb); have n1_ := Aside0.mk (below_step (by with_reducible repeat first | exact HB.out | apply below_alloc | apply pw_below_drewN | apply below_drew1) hb); have n2_ := Aside0.mk (hbox); have n3_ := Aside0.mk ((by rw [hg]; exact (below_size (by with_reducible repeat first | exact HB.out | apply below_alloc | apply pw_below_drewN | apply below_drew1)) : w.heap.size ≤ gb446)); have n4_ := Aside0.mk ((by rw [hg]; exact (below_size (by with_reducible repeat first | exact HB.out | apply below_alloc | apply pw_below_drewN | apply below_drew1)) : w.heap.size ≤ gb446)); clear HO_5; clear HB; have HO_5 := n0_; have HB := n1_; have BK446 := n2_; have GW446 := n3_; have GE446 := n4_; clear n0_ n1_ n2_ n3_ n4_; clear hb hbox hg; have hcz16_0 : w15.cell? ⟨gb446, 0, none⟩ = some (.int .i64 0) := (blk_cell BK446.out 0).trans rfl; have hcz16_1 : w15.cell? ⟨gb446, 1, none⟩ = some (.int .i64 0) := (blk_cell BK446.out 1).trans rfl; have hcz16_2 : w15.cell? ⟨gb446, 2, none⟩ = some (.slice none 0 0) := (blk_cell BK446.out 2).trans rfl; have hcz16_3 : w15.cell? ⟨gb446, 3, none⟩ = some (.slice none 0 0) := (blk_cell BK446.out 3).trans rfl; have hfz16_0 := blk_frozen BK446.out 0; have hfz16_1 := blk_frozen BK446.out 1; have hfz16_2 := blk_frozen BK446.out 2; have hfz16_3 := blk_frozen BK446.out 3; obtain ⟨Ao17, co17, eo17⟩ := Kd.R_slice HO_5.out; subst eo17; have p447 : 0 ≤ ((ji10) : Int) := of_decide_eq_true (by assumption); have q447 : (ji10) < (x5_1.length : Int) := of_decide_eq_true (by assumption); obtain ⟨ad447, e447, hx447_0, hx447_1⟩ := at_T121 (Kd.R_reads' HO_5.out).2.2 (ji10) p447 q447; cases e447; have hn447_0 : ad447.block ≠ gb446 := Kd.own_blk (Kd.R_ne HO_5.out BK446.out (by decide)); have hn447_1 : ad447.block ≠ gb446 := Kd.own_blk (Kd.R_ne HO_5.out BK446.out (by decide)); have hn447_2 : ad447.block ≠ gb446 := Kd.own_blk (Kd.R_ne HO_5.out BK446.out (by decide)); have hn447_3 : ad447.block ≠ gb446 := Kd.own_blk (Kd.R_ne HO_5.out BK446.out (by decide)); replace hx447_0 := (cell_far (p := ⟨gb446, 0, none⟩) (by first | (rw [add_block]; exact hn447_0) | (show (Addr.add _ _).block ≠ _; rw [add_block]; exact hn447_0) | exact hn447_0) (.int .i64 ((rd_T95 l0 x16_1).f0))).trans hx447_0; replace hx447_1 := (cell_far (p := ⟨gb446, 0, none⟩) (by first | (rw [add_block]; exact hn447_0) | (show (Addr.add _ _).block ≠ _; rw [add_block]; exact hn447_0) | exact hn447_0) (.int .i64 ((rd_T95 l0 x16_1).f0))).trans hx447_1; replace hx447_0 := (cell_far (p := ⟨gb446, 1, none⟩) (by first | (rw [add_block]; exact hn447_1) | (show (Addr.add _ _).block ≠ _; rw [add_block]; exact hn447_1) | exact hn447_1) (.int .i64 ((rd_T95 l0 x16_1).f1))).trans hx447_0; replace hx447_1 := (cell_far (p := ⟨gb446, 1, none⟩) (by first | (rw [add_block]; exact hn447_1) | (show (Addr.add _ _).block ≠ _; rw [add_block]; exact hn447_1) | exact hn447_1) (.int .i64 ((rd_T95 l0 x16_1).f1))).trans hx447_1; replace hx447_0 := (cell_far (p := ⟨gb446, 2, none⟩) (by first | (rw [add_block]; exact hn447_2) | (show (Addr.add _ _).block ≠ _; rw [add_block]; exact hn447_2) | exact hn447_2) (.slice A445_2 ((rd_T95 l0 x16_1).f2).length c445_2)).trans hx447_0; replace hx447_1 := (cell_far (p := ⟨gb446, 2, none⟩) (by first | (rw [add_block]; exact hn447_2) | (show (Addr.add _ _).block ≠ _; rw [add_block]; exact hn447_2) | exact hn447_2) (.slice A445_2 ((rd_T95 l0 x16_1).f2).length c445_2)).trans hx447_1; replace hx447_0 := (cell_far (p := ⟨gb446, 3, none⟩) (by first | (rw [add_block]; exact hn447_3) | (show (Addr.add _ _).block ≠ _; rw [add_block]; exact hn447_3) | exact hn447_3) (.slice A445_3 ((rd_T95 l0 x16_1).f3).length c445_3)).trans hx447_0; replace hx447_1 := (cell_far (p := ⟨gb446, 3, none⟩) (by first | (rw [add_block]; exact hn447_3) | (show (Addr.add _ _).block ≠ _; rw [add_block]; exact hn447_3) | exact hn447_3) (.slice A445_3 ((rd_T95 l0 x16_1).f3).length c445_3)).trans hx447_1; clear hn447_0; clear hn447_1; clear hn447_2; clear hn447_3; replace p447 := eq_true p447; replace q447 := eq_true q447))
            have n0_ : Aside0 (Kd.R k121 121 ((((w15.setCell ⟨gb446, 0, none⟩ (.int .i64 ((rd_T95 l0 x16_1).f0))).setCell ⟨gb446, 1, none⟩ (.int .i64 ((rd_T95 l0 x16_1).f1))).setCell ⟨gb446, 2, none⟩ (.slice A445_2 ((rd_T95 l0 x16_1).f2).length c445_2)).setCell ⟨gb446, 3, none⟩ (.slice A445_3 ((rd_T95 l0 x16_1).f3).length c445_3)) w.heap.size (fun _ => True) (.slice (some ad447) x5_1.length co17) x5_1) := ⟨by (with_reducible repeat (first | apply Kd.R_alloc | apply Kd.R_drewN | apply Kd.R_drew)); exact Kd.R_mono (Kd.R_far (p := ⟨gb446, 3, none⟩) (Kd.R_far (p := ⟨gb446, 2, none⟩) (Kd.R_far (p := ⟨gb446, 1, none⟩) (Kd.R_far (p := ⟨gb446, 0, none⟩) (Kd.R_types HO_5.out BK446.out (by decide)) (fun _ hk => hk.2) (.int .i64 ((rd_T95 l0 x16_1).f0))) (fun _ hk => hk.2) (.int .i64 ((rd_T95 l0 x16_1).f1))) (fun _ hk => hk.2) (.slice A445_2 ((rd_T95 l0 x16_1).f2).length c445_2)) (fun _ hk => hk.2) (.slice A445_3 ((rd_T95 l0 x16_1).f3).length c445_3)) (fun _ hk => trivial)⟩
            have n1_ : Aside0 (((((w15.setCell ⟨gb446, 0, none⟩ (.int .i64 ((rd_T95 l0 x16_1).f0))).setCell ⟨gb446, 1, none⟩ (.int .i64 ((rd_T95 l0 x16_1).f1))).setCell ⟨gb446, 2, none⟩ (.slice A445_2 ((rd_T95 l0 x16_1).f2).length c445_2)).setCell ⟨gb446, 3, none⟩ (.slice A445_3 ((rd_T95 l0 x16_1).f3).length c445_3)).heap[gb446]? = some (.cells #[.int .i64 ((rd_T95 l0 x16_1).f0), .int .i64 ((rd_T95 l0 x16_1).f1), .slice A445_2 ((rd_T95 l0 x16_1).f2).length c445_2, .slice A445_3 ((rd_T95 l0 x16_1).f3).length c445_3] 95 (0, 0))) := ⟨by (with_reducible repeat (first | refine blk_drewN ?_ _ | refine blk_drew ?_ | refine blk_alloc ?_ _)); refine blk_put (cs := #[.int .i64 ((rd_T95 l0 x16_1).f0), .int .i64 ((rd_T95 l0 x16_1).f1), .slice A445_2 ((rd_T95 l0 x16_1).f2).length c445_2, .slice none 0 0]) ?_ 3 _ rfl; (with_reducible repeat (first | refine blk_drewN ?_ _ | refine blk_drew ?_ | refine blk_alloc ?_ _)); refine blk_put (cs := #[.int .i64 ((rd_T95 l0 x16_1).f0), .int .i64 ((rd_T95 l0 x16_1).f1), .slice none 0 0, .slice none 0 0]) ?_ 2 _ rfl; (with_reducible repeat (first | refine blk_drewN ?_ _ | refine blk_drew ?_ | refine blk_alloc ?_ _)); refine blk_put (cs := #[.int .i64 ((rd_T95 l0 x16_1).f0), .int .i64 0, .slice none 0 0, .slice none 0 0]) ?_ 1 _ rfl; (with_reducible repeat (first | refine blk_drewN ?_ _ | refine blk_drew ?_ | refine blk_alloc ?_ _)); refine blk_put (cs := #[.int .i64 0, .int .i64 0, .slice none 0 0, .slice none 0 0]) ?_ 0 _ rfl; (with_reducible repeat (first | refine blk_drewN ?_ _ | refine blk_drew ?_ | refine blk_alloc ?_ _)); exact BK446.out⟩
            have n2_ : Aside0 (Below w.heap.size w ((((w15.setCell ⟨gb446, 0, none⟩ (.int .i64 ((rd_T95 l0 x16_1).f0))).setCell ⟨gb446, 1, none⟩ (.int .i64 ((rd_T95 l0 x16_1).f1))).setCell ⟨gb446, 2, none⟩ (.slice A445_2 ((rd_T95 l0 x16_1).f2).length c445_2)).setCell ⟨gb446, 3, none⟩ (.slice A445_3 ((rd_T95 l0 x16_1).f3).length c445_3))) := ⟨by repeat (first | (with_reducible first | exact HB.out | apply below_alloc | apply pw_below_drewN | apply below_drew1 | refine below_set ?_ GE446.out) | exact HB.out)⟩
            (try clear HO_5)
            (try clear BK446)
            (try clear HB)
            generalize ((((w15.setCell ⟨gb446, 0, none⟩ (.int .i64 ((rd_T95 l0 x16_1).f0))).setCell ⟨gb446, 1, none⟩ (.int .i64 ((rd_T95 l0 x16_1).f1))).setCell ⟨gb446, 2, none⟩ (.slice A445_2 ((rd_T95 l0 x16_1).f2).length c445_2)).setCell ⟨gb446, 3, none⟩ (.slice A445_3 ((rd_T95 l0 x16_1).f3).length c445_3)) = w18 at n0_ n1_ n2_ ⊢
            have HO_5 := n0_
            have BK446 := n1_
            have HB := n2_
            clear n0_ n1_ n2_
            have n0_ := Aside0.mk (Kd.R_drew HO_5.out)
            have n1_ := Aside0.mk (blk_drew BK446.out)
            have n2_ := Aside0.mk (below_drew1 HB.out)
            clear HO_5
            clear BK446
            clear HB
            have HO_5 := n0_
            have BK446 := n1_
            have HB := n2_
            clear n0_ n1_ n2_
            have p448 : 0 ≤ ((ji10) : Int) := of_decide_eq_true (by assumption)
            have q448 : (ji10) < (x5_1.length : Int) := of_decide_eq_true (by assumption)
            obtain ⟨ad448, e448, hx448_0, hx448_1⟩ := at_T121 (Kd.R_reads' HO_5.out).2.2 (ji10) p448 q448
            obtain rfl : ad447 = ad448 := (by injection e448)
            replace p448 := eq_true p448
            replace q448 := eq_true q448
            have p14 : 0 ≤ ((ji10) : Int) := of_decide_eq_true (by assumption)
            have q14 : ((ji10) : Int) < ((x5_1.length : Int) : Int) := of_decide_eq_true (by assumption)
            obtain ⟨go14, co14, eo14, gb14, gl14, cl14, HG14⟩ := Kd.R_form HO_5.out (by omega)
            (first | cases eo14 | (injection eo14 with ea_ en_ ec_; (first | subst ea_ | (injection ea_ with ea_; subst ea_)); subst ec_; clear en_))
            have GB14 := Aside0.mk gb14
            have GG14 := Aside0.mk HG14
            clear gb14 gl14 HG14
            (first | simp only [add_plain] at hx447_0 | skip)
            (first | simp only [add_plain] at hx447_1 | skip)
            (first | simp only [add_plain] at hx448_0 | skip)
            (first | simp only [add_plain] at hx448_1 | skip)
            obtain ⟨ce14, hcl14, hM14, hcc14, hfr14⟩ := Kd.R_elem HO_5.out z121 ((ji10) : Int) p14 q14
            obtain rfl := k121_openM hM14
            have hx14_0 : World.cell? _ ⟨go14, ((ji10) : Int).toNat * 2, none⟩ = some (.int .i64 ((rd_T121 x5_1 (ji10)).f0)) := hcc14 0 _ rfl
            have hx14_1 : World.cell? _ ⟨go14, ((ji10) : Int).toNat * 2 + 1, none⟩ = some (.int .i64 ((rd_T121 x5_1 (ji10)).f1)) := hcc14 1 _ rfl
            have hf14_0 : World.frozen? _ ⟨go14, ((ji10) : Int).toNat * 2, none⟩ = false := hfr14 0
            have hf14_1 : World.frozen? _ ⟨go14, ((ji10) : Int).toNat * 2 + 1, none⟩ = false := hfr14 1
            clear hcl14 hcc14 hfr14 hM14
            replace p14 := eq_true p14
            replace q14 := eq_true q14
            obtain ⟨ce20, hcl20, hM20, hcc20, hfr20⟩ := Kd.R_elem HO_5.out z121 ((ji10) : Int) (of_decide_eq_true (by assumption)) (by have h_ : ((ji10) : Int) < ((x5_1.length : Int) : Int) := of_decide_eq_true (by assumption); first | exact h_ | (have e_ := (Kd.R_reads' HO_5.out).1; omega) | simpa using h_)
            obtain rfl := k121_openM hM20
            have HP20 := (Kd.R_seg HO_5.out ((ji10) : Int) (of_decide_eq_true (by assumption)) (by have h_ : ((ji10) : Int) < ((x5_1.length : Int) : Int) := of_decide_eq_true (by assumption); first | exact h_ | (have e_ := (Kd.R_reads' HO_5.out).1; omega) | simpa using h_) (seg := [.int .i64 (wrap64 (((rd_T121 x5_1 (ji10)).f1) + ((rd_T95 l0 x16_1).f1)))]) (j := 1) hcl20 hcc20 (show 2 ≤ 2 from by decide) (x' := (⟨(rd_T121 x5_1 (ji10)).f0, wrap64 (((rd_T121 x5_1 (ji10)).f1) + ((rd_T95 l0 x16_1).f1))⟩ : S121)) (k121_mkM _ _ _ (⟨(rd_T121 x5_1 (ji10)).f0, wrap64 (((rd_T121 x5_1 (ji10)).f1) + ((rd_T95 l0 x16_1).f1))⟩ : S121) ) (fun _ hk => hk)).1
            rw [← Ny449.out] at HP20
            have HQ20 := Aside0.mk HP20
            clear hcl20 hcc20 hfr20 hM20 HP20
            refine start_ (n := 11) (S := fun w' => w'.cell? ⟨gb446, 0, none⟩ = some (.int .i64 ((rd_T95 l0 x16_1).f0)) ∧ w'.cell? ⟨gb446, 1, none⟩ = some (.int .i64 ((rd_T95 l0 x16_1).f1)) ∧ w'.cell? ⟨gb446, 2, none⟩ = some (.slice A445_2 ((rd_T95 l0 x16_1).f2).length c445_2) ∧ w'.cell? ⟨gb446, 3, none⟩ = some (.slice A445_3 ((rd_T95 l0 x16_1).f3).length c445_3) ∧ w'.cell? ⟨go14, ((ji10)).toNat * 2, none⟩ = some (.int .i64 ((rd_T121 x5_1 (ji10)).f0)) ∧ w'.cell? ⟨go14, ((ji10)).toNat * 2 + 1, none⟩ = some (.int .i64 ((rd_T121 x5_1 (ji10)).f1))) (ds := [10]) #[false, false, false, false, false, false, false, false, false, false, false] (by kernel_rfl) rfl rfl ⟨(blk_cell BK446.out 0).trans rfl, (blk_cell BK446.out 1).trans rfl, (blk_cell BK446.out 2).trans rfl, (blk_cell BK446.out 3).trans rfl, hx448_0, hx448_1⟩ (fun hHeld => ?_); refine with_tabW delta_Axis.tab10 delta_Axis.bits10 (fun HT_ HW_ => ?_)
            generalize w18.drew = w19 at HO_5 BK446 HB GG14 HQ20 hf14_0 hf14_1 hx14_0 hx14_1 hx447_0 hx447_1 hx448_0 hx448_1 hHeld ⊢
            refine pure_ (i := 0) (N := some 38) (v := ?_) (a' := ?_) (bm 1 11) rfl rfl (any_of HT_.out (by kernel_rfl)) (fun _ _ _ h => h) (Or.inl ⟨by rfl, ?_⟩) ?_ ?_
            rotate_left
            ·intro w'
             go_simp
             with_reducible rfl
            rotate_left
            ·simp only [Act.put, sA, sB, sC, i64_w, i32_w]
             rfl
            refine pure_ (i := 1) (N := some 39) (v := ?_) (a' := ?_) (bm 3 11) rfl rfl (any_of HT_.out (by kernel_rfl)) (fun _ _ _ h => h) (Or.inl ⟨by rfl, ?_⟩) ?_ ?_
            rotate_left
            ·intro w'
             go_simp
             with_reducible rfl
            rotate_left
            ·simp only [Act.put, sA, sB, sC, i64_w, i32_w]
             rfl
            refine pure_ (i := 2) (N := some 40) (v := ?_) (a' := ?_) (bm 7 11) rfl rfl (any_of HT_.out (by kernel_rfl)) (fun _ _ _ h => h) (Or.inl ⟨by rfl, ?_⟩) ?_ ?_
            rotate_left
            ·intro w'
             go_simp
             with_reducible rfl
            rotate_left
            ·simp only [Act.put, sA, sB, sC, i64_w, i32_w]
             rfl
            refine pure_ (i := 3) (N := some 41) (v := ?_) (a' := ?_) (bm 15 11) rfl rfl (any_of HT_.out (by kernel_rfl)) (fun _ _ _ h => h) (Or.inl ⟨by rfl, ?_⟩) ?_ ?_
            rotate_left
            ·intro w'
             go_simp
             with_reducible rfl
            rotate_left
            ·simp only [Act.put, sA, sB, sC, i64_w, i32_w]
             rfl
            refine pure_ (i := 5) (N := some 43) (v := ?_) (a' := ?_) (bm 47 11) rfl rfl (any_of HT_.out (by kernel_rfl)) (fun _ _ _ h => h) (Or.inl ⟨by rfl, ?_⟩) ?_ ?_
            rotate_left
            ·intro w'
             go_simp
             with_reducible rfl
            rotate_left
            ·simp only [Act.put, sA, sB, sC, i64_w, i32_w]
             rfl
            refine take_ (i := 4) (N := some 42) (v := ?_) (a' := ?_) (bm 63 11) rfl rfl (take_ofW HT_.out HW_.out (by kernel_rfl)) (fun _ _ _ h => h) (Or.inl ⟨by rfl, ?_⟩) hHeld ?_ ?_
            rotate_left
            ·rintro w' ⟨s0, s1, s2, s3, s4, s5⟩
             go_simp
             with_reducible rfl
            rotate_left
            ·simp only [Act.put, sA, sB, sC, i64_w, i32_w]
             rfl
            refine take_ (i := 6) (N := some 44) (v := ?_) (a' := ?_) (bm 127 11) rfl rfl (take_ofW HT_.out HW_.out (by kernel_rfl)) (fun _ _ _ h => h) (Or.inl ⟨by rfl, ?_⟩) hHeld ?_ ?_
            rotate_left
            ·rintro w' ⟨s0, s1, s2, s3, s4, s5⟩
             go_simp
             with_reducible rfl
            rotate_left
            ·simp only [Act.put, sA, sB, sC, i64_w, i32_w]
             rfl
            refine pure_ (i := 7) (N := some 45) (v := ?_) (a' := ?_) (bm 255 11) rfl rfl (any_of HT_.out (by kernel_rfl)) (fun _ _ _ h => h) (Or.inl ⟨by rfl, ?_⟩) ?_ ?_
            rotate_left
            ·intro w'
             go_simp
             with_reducible rfl
            rotate_left
            ·simp only [Act.put, sA, sB, sC, i64_w, i32_w]
             rfl
            refine pure_ (i := 8) (N := some 46) (v := ?_) (a' := ?_) (bm 511 11) rfl rfl (any_of HT_.out (by kernel_rfl)) (fun _ _ _ h => h) (Or.inl ⟨by rfl, ?_⟩) ?_ ?_
            rotate_left
            ·intro w'
             go_simp
             with_reducible rfl
            rotate_left
            ·simp only [Act.put, sA, sB, sC, i64_w, i32_w]
             rfl
            refine pure_ (i := 9) (N := some 47) (v := ?_) (a' := ?_) (bm 1023 11) rfl rfl (any_of HT_.out (by kernel_rfl)) (fun _ _ _ h => h) (Or.inl ⟨by rfl, ?_⟩) ?_ ?_
            rotate_left
            ·intro w'
             go_simp
             with_reducible rfl
            rotate_left
            ·simp only [Act.put, sA, sB, sC, i64_w, i32_w]
             rfl
            refine last_ (i := 10) (N := none) (bm 2047 11) rfl rfl (one_of HT_.out (by kernel_rfl)) (by decide) (fun K hK => ?_)
            refine skip_ (w1 := ?_) (by rfl) rfl ?_ ?_
            rotate_left
            ·go_simp
             rfl
            refine hK.out _ _ ?_
            clear hK K
            refine done_ (done_of HT_.out (by kernel_rfl)) ?_
            try go_wp2
            go_roundg k1
            case measure => have := HK1.out; omega
            case rel => exact ⟨(y449), (wrap64 (x16_1 + 1)), (by first | rfl | (simp; done) | (simp [*]; done)), H', ⟨by have := HK1.out; omega⟩, ⟨by (with_reducible repeat (first | apply Kd.R_alloc | apply Kd.R_drewN | apply Kd.R_drew)); exact HQ20.out⟩, ⟨by repeat (first | (with_reducible first | exact HB.out | apply below_alloc | apply pw_below_drewN | apply below_drew1 | refine below_set ?_ GB14.out | refine below_set ?_ GE446.out) | exact HB.out)⟩⟩
           ·rw [if_neg c13] at H
            have c13b0 : (((rd_T121 x5_1 (ji10)).f0) == 0) = false := beq_eq_false_iff_ne.mpr c13
            have c13b1 : (((rd_T121 x5_1 (ji10)).f0) != 0) = true := bne_iff_ne.mpr c13
            replace H := Option.bind_eq_some_iff.mp H
            obtain ⟨t450, A210, H⟩ := H
            replace H : (if x5_1.length < 8796093022208 then (delta_Axis.l0 k1 (x5_1 ++ [(⟨(rd_T95 l0 x16_1).f0, t450⟩ : S121)]) l0 (l0.length : Int) (wrap64 (x16_1 + 1))) else (none)) = some (r1, r2) := H
            have A21 := Aside0.mk A210
            clear A210
            by_cases c22 : x5_1.length < 8796093022208
            ·rw [if_pos c22] at H
             have LMc22 := Aside0.mk c22
             clear c22
             obtain ⟨y451, hy451⟩ : ∃ y_ : List (S121), y_ = (x5_1 ++ [(⟨(rd_T95 l0 x16_1).f0, t450⟩ : S121)]) := ⟨_, rfl⟩
             replace H : (delta_Axis.l0 k1 y451 l0 (l0.length : Int) (wrap64 (x16_1 + 1))) = some (r1, r2) := by first | (rw [hy451]; with_reducible exact H) | (have H2_ := (Option.bind_some _ _).symm.trans H; rw [hy451]; with_reducible exact H2_) | (have H2_ := (Option.bind_some _ _).symm.trans H; with_reducible exact H2_) | with_reducible exact H | (rw [hy451]; exact H) | exact H
             have Ny451 := Aside0.mk hy451
             clear hy451
             have H' := Aside0.mk H
             clear H
             have p445 : 0 ≤ (x16_1 : Int) := of_decide_eq_true (by assumption)
             have q445 : x16_1 < (l0.length : Int) := of_decide_eq_true (by assumption)
             obtain ⟨ad445, A445_2, c445_2, A445_3, c445_3, e445, hx445_0, hx445_1, hx445_2, hx445_3, hl445_2, hi445_2, hl445_3, hi445_3⟩ := at_T95 HR0.out x16_1 p445 q445
             cases e445
             replace hx445_0 := (HB.out.cell (World.block_lt_of_cell? w _ hx445_0)).trans hx445_0
             replace hx445_1 := (HB.out.cell (World.block_lt_of_cell? w _ hx445_1)).trans hx445_1
             replace hx445_2 := (HB.out.cell (World.block_lt_of_cell? w _ hx445_2)).trans hx445_2
             replace hx445_3 := (HB.out.cell (World.block_lt_of_cell? w _ hx445_3)).trans hx445_3
             have HR445_2 := Aside0.mk hi445_2
             have HC445_2 := Aside0.mk hl445_2
             clear hi445_2 hl445_2
             have HR445_3 := Aside0.mk hi445_3
             have HC445_3 := Aside0.mk hl445_3
             clear hi445_3 hl445_3
             replace p445 := eq_true p445
             replace q445 := eq_true q445
             try go_wp2_with (first | ((with_reducible refine gate_dst (N := 7) rfl ?_); refine box_event ?hg (N := 7) ?hd (cs := #[.int .i64 0, .int .i64 0, .slice none 0 0, .slice none 0 0]) (t := 95) ?hr ?_; (case hd => rfl); (case hg => rfl); (case hr => first | (go_simp; done) | (go_simp; rfl)); intro gb446 hg w23 hbox hb; have n0_ := Aside0.mk (Kd.R_below (by (with_reducible repeat (first | apply Kd.R_alloc | apply Kd.R_drewN | apply Kd.R_drew)); exact HO_5.out) hb); have n1_ := Aside0.mk (below_step (by with_reducible repeat first | exact HB.out | apply below_alloc | apply pw_below_drewN | apply below_drew1) hb); have n2_ := Aside0.mk (hbox); have n3_ := Aside0.mk ((by rw [hg]; exact (below_size (by with_reducible repeat first | exact HB.out | apply below_alloc | apply pw_below_drewN | apply below_drew1)) : w.heap.size ≤ gb446)); have n4_ := Aside0.mk ((by rw [hg]; exact (below_size (by with_reducible repeat first | exact HB.out | apply below_alloc | apply pw_below_drewN | apply below_drew1)) : w.heap.size ≤ gb446)); clear HO_5; clear HB; have HO_5 := n0_; have HB := n1_; have BK446 := n2_; have GW446 := n3_; have GE446 := n4_; clear n0_ n1_ n2_ n3_ n4_; clear hb hbox hg; have hcz24_0 : w23.cell? ⟨gb446, 0, none⟩ = some (.int .i64 0) := (blk_cell BK446.out 0).trans rfl; have hcz24_1 : w23.cell? ⟨gb446, 1, none⟩ = some (.int .i64 0) := (blk_cell BK446.out 1).trans rfl; have hcz24_2 : w23.cell? ⟨gb446, 2, none⟩ = some (.slice none 0 0) := (blk_cell BK446.out 2).trans rfl; have hcz24_3 : w23.cell? ⟨gb446, 3, none⟩ = some (.slice none 0 0) := (blk_cell BK446.out 3).trans rfl; have hfz24_0 := blk_frozen BK446.out 0; have hfz24_1 := blk_frozen BK446.out 1; have hfz24_2 := blk_frozen BK446.out 2; have hfz24_3 := blk_frozen BK446.out 3; obtain ⟨Ao25, co25, eo25⟩ := Kd.R_slice HO_5.out; subst eo25; have p447 : 0 ≤ ((ji10) : Int) := of_decide_eq_true (by assumption); have q447 : (ji10) < (x5_1.length : Int) := of_decide_eq_true (by assumption); obtain ⟨ad447, e447, hx447_0, hx447_1⟩ := at_T121 (Kd.R_reads' HO_5.out).2.2 (ji10) p447 q447; cases e447; have hn447_0 : ad447.block ≠ gb446 := Kd.own_blk (Kd.R_ne HO_5.out BK446.out (by decide)); have hn447_1 : ad447.block ≠ gb446 := Kd.own_blk (Kd.R_ne HO_5.out BK446.out (by decide)); have hn447_2 : ad447.block ≠ gb446 := Kd.own_blk (Kd.R_ne HO_5.out BK446.out (by decide)); have hn447_3 : ad447.block ≠ gb446 := Kd.own_blk (Kd.R_ne HO_5.out BK446.out (by decide)); replace hx447_0 := (cell_far (p := ⟨gb446, 0, none⟩) (by first | (rw [add_block]; exact hn447_0) | (show (Addr.add _ _).block ≠ _; rw [add_block]; exact hn447_0) | exact hn447_0) (.int .i64 ((rd_T95 l0 x16_1).f0))).trans hx447_0; replace hx447_1 := (cell_far (p := ⟨gb446, 0, none⟩) (by first | (rw [add_block]; exact hn447_0) | (show (Addr.add _ _).block ≠ _; rw [add_block]; exact hn447_0) | exact hn447_0) (.int .i64 ((rd_T95 l0 x16_1).f0))).trans hx447_1; replace hx447_0 := (cell_far (p := ⟨gb446, 1, none⟩) (by first | (rw [add_block]; exact hn447_1) | (show (Addr.add _ _).block ≠ _; rw [add_block]; exact hn447_1) | exact hn447_1) (.int .i64 ((rd_T95 l0 x16_1).f1))).trans hx447_0; replace hx447_1 := (cell_far (p := ⟨gb446, 1, none⟩) (by first | (rw [add_block]; exact hn447_1) | (show (Addr.add _ _).block ≠ _; rw [add_block]; exact hn447_1) | exact hn447_1) (.int .i64 ((rd_T95 l0 x16_1).f1))).trans hx447_1; replace hx447_0 := (cell_far (p := ⟨gb446, 2, none⟩) (by first | (rw [add_block]; exact hn447_2) | (show (Addr.add _ _).block ≠ _; rw [add_block]; exact hn447_2) | exact hn447_2) (.slice A445_2 ((rd_T95 l0 x16_1).f2).length c445_2)).trans hx447_0; replace hx447_1 := (cell_far (p := ⟨gb446, 2, none⟩) (by first | (rw [add_block]; exact hn447_2) | (show (Addr.add _ _).block ≠ _; rw [add_block]; exact hn447_2) | exact hn447_2) (.slice A445_2 ((rd_T95 l0 x16_1).f2).length c445_2)).trans hx447_1; replace hx447_0 := (cell_far (p := ⟨gb446, 3, none⟩) (by first | (rw [add_block]; exact hn447_3) | (show (Addr.add _ _).block ≠ _; rw [add_block]; exact hn447_3) | exact hn447_3) (.slice A445_3 ((rd_T95 l0 x16_1).f3).length c445_3)).trans hx447_0; replace hx447_1 := (cell_far (p := ⟨gb446, 3, none⟩) (by first | (rw [add_block]; exact hn447_3) | (show (Addr.add _ _).block ≠ _; rw [add_block]; exact hn447_3) | exact hn447_3) (.slice A445_3 ((rd_T95 l0 x16_1).f3).length c445_3)).trans hx447_1; clear hn447_0; clear hn447_1; clear hn447_2; clear hn447_3; replace p447 := eq_true p447; replace q447 := eq_true q447))
             have n0_ : Aside0 (Kd.R k121 121 ((((w23.setCell ⟨gb446, 0, none⟩ (.int .i64 ((rd_T95 l0 x16_1).f0))).setCell ⟨gb446, 1, none⟩ (.int .i64 ((rd_T95 l0 x16_1).f1))).setCell ⟨gb446, 2, none⟩ (.slice A445_2 ((rd_T95 l0 x16_1).f2).length c445_2)).setCell ⟨gb446, 3, none⟩ (.slice A445_3 ((rd_T95 l0 x16_1).f3).length c445_3)) w.heap.size (fun _ => True) (.slice (some ad447) x5_1.length co25) x5_1) := ⟨by (with_reducible repeat (first | apply Kd.R_alloc | apply Kd.R_drewN | apply Kd.R_drew)); exact Kd.R_mono (Kd.R_far (p := ⟨gb446, 3, none⟩) (Kd.R_far (p := ⟨gb446, 2, none⟩) (Kd.R_far (p := ⟨gb446, 1, none⟩) (Kd.R_far (p := ⟨gb446, 0, none⟩) (Kd.R_types HO_5.out BK446.out (by decide)) (fun _ hk => hk.2) (.int .i64 ((rd_T95 l0 x16_1).f0))) (fun _ hk => hk.2) (.int .i64 ((rd_T95 l0 x16_1).f1))) (fun _ hk => hk.2) (.slice A445_2 ((rd_T95 l0 x16_1).f2).length c445_2)) (fun _ hk => hk.2) (.slice A445_3 ((rd_T95 l0 x16_1).f3).length c445_3)) (fun _ hk => trivial)⟩
             have n1_ : Aside0 (((((w23.setCell ⟨gb446, 0, none⟩ (.int .i64 ((rd_T95 l0 x16_1).f0))).setCell ⟨gb446, 1, none⟩ (.int .i64 ((rd_T95 l0 x16_1).f1))).setCell ⟨gb446, 2, none⟩ (.slice A445_2 ((rd_T95 l0 x16_1).f2).length c445_2)).setCell ⟨gb446, 3, none⟩ (.slice A445_3 ((rd_T95 l0 x16_1).f3).length c445_3)).heap[gb446]? = some (.cells #[.int .i64 ((rd_T95 l0 x16_1).f0), .int .i64 ((rd_T95 l0 x16_1).f1), .slice A445_2 ((rd_T95 l0 x16_1).f2).length c445_2, .slice A445_3 ((rd_T95 l0 x16_1).f3).length c445_3] 95 (0, 0))) := ⟨by (with_reducible repeat (first | refine blk_drewN ?_ _ | refine blk_drew ?_ | refine blk_alloc ?_ _)); refine blk_put (cs := #[.int .i64 ((rd_T95 l0 x16_1).f0), .int .i64 ((rd_T95 l0 x16_1).f1), .slice A445_2 ((rd_T95 l0 x16_1).f2).length c445_2, .slice none 0 0]) ?_ 3 _ rfl; (with_reducible repeat (first | refine blk_drewN ?_ _ | refine blk_drew ?_ | refine blk_alloc ?_ _)); refine blk_put (cs := #[.int .i64 ((rd_T95 l0 x16_1).f0), .int .i64 ((rd_T95 l0 x16_1).f1), .slice none 0 0, .slice none 0 0]) ?_ 2 _ rfl; (with_reducible repeat (first | refine blk_drewN ?_ _ | refine blk_drew ?_ | refine blk_alloc ?_ _)); refine blk_put (cs := #[.int .i64 ((rd_T95 l0 x16_1).f0), .int .i64 0, .slice none 0 0, .slice none 0 0]) ?_ 1 _ rfl; (with_reducible repeat (first | refine blk_drewN ?_ _ | refine blk_drew ?_ | refine blk_alloc ?_ _)); refine blk_put (cs := #[.int .i64 0, .int .i64 0, .slice none 0 0, .slice none 0 0]) ?_ 0 _ rfl; (with_reducible repeat (first | refine blk_drewN ?_ _ | refine blk_drew ?_ | refine blk_alloc ?_ _)); exact BK446.out⟩
             have n2_ : Aside0 (Below w.heap.size w ((((w23.setCell ⟨gb446, 0, none⟩ (.int .i64 ((rd_T95 l0 x16_1).f0))).setCell ⟨gb446, 1, none⟩ (.int .i64 ((rd_T95 l0 x16_1).f1))).setCell ⟨gb446, 2, none⟩ (.slice A445_2 ((rd_T95 l0 x16_1).f2).length c445_2)).setCell ⟨gb446, 3, none⟩ (.slice A445_3 ((rd_T95 l0 x16_1).f3).length c445_3))) := ⟨by repeat (first | (with_reducible first | exact HB.out | apply below_alloc | apply pw_below_drewN | apply below_drew1 | refine below_set ?_ GE446.out) | exact HB.out)⟩
             (try clear HO_5)
             (try clear BK446)
             (try clear HB)
             generalize ((((w23.setCell ⟨gb446, 0, none⟩ (.int .i64 ((rd_T95 l0 x16_1).f0))).setCell ⟨gb446, 1, none⟩ (.int .i64 ((rd_T95 l0 x16_1).f1))).setCell ⟨gb446, 2, none⟩ (.slice A445_2 ((rd_T95 l0 x16_1).f2).length c445_2)).setCell ⟨gb446, 3, none⟩ (.slice A445_3 ((rd_T95 l0 x16_1).f3).length c445_3)) = w26 at n0_ n1_ n2_ ⊢
             have HO_5 := n0_
             have BK446 := n1_
             have HB := n2_
             clear n0_ n1_ n2_
             have n0_ := Aside0.mk (Kd.R_drew HO_5.out)
             have n1_ := Aside0.mk (blk_drew BK446.out)
             have n2_ := Aside0.mk (below_drew1 HB.out)
             clear HO_5
             clear BK446
             clear HB
             have HO_5 := n0_
             have BK446 := n1_
             have HB := n2_
             clear n0_ n1_ n2_
             refine start_ (n := 9) (S := fun w' => w'.cell? ⟨gb446, 0, none⟩ = some (.int .i64 ((rd_T95 l0 x16_1).f0)) ∧ w'.cell? ⟨gb446, 1, none⟩ = some (.int .i64 ((rd_T95 l0 x16_1).f1)) ∧ w'.cell? ⟨gb446, 2, none⟩ = some (.slice A445_2 ((rd_T95 l0 x16_1).f2).length c445_2) ∧ w'.cell? ⟨gb446, 3, none⟩ = some (.slice A445_3 ((rd_T95 l0 x16_1).f3).length c445_3)) (ds := []) #[false, false, false, false, false, false, false, false, false] (by kernel_rfl) rfl rfl ⟨(blk_cell BK446.out 0).trans rfl, (blk_cell BK446.out 1).trans rfl, (blk_cell BK446.out 2).trans rfl, (blk_cell BK446.out 3).trans rfl⟩ (fun hHeld => ?_); refine with_tabW delta_Axis.tab11 delta_Axis.bits11 (fun HT_ HW_ => ?_)
             generalize w26.drew = w27 at HO_5 BK446 HB hHeld ⊢
             refine pure_ (i := 0) (N := some 48) (v := ?_) (a' := ?_) (bm 1 9) rfl rfl (any_of HT_.out (by kernel_rfl)) (fun _ _ _ h => h) (Or.inl ⟨by rfl, ?_⟩) ?_ ?_
             rotate_left
             ·intro w'
              go_simp
              with_reducible rfl
             rotate_left
             ·simp only [Act.put, sA, sB, sC, i64_w, i32_w]
              rfl
             refine pure_ (i := 1) (N := some 49) (v := ?_) (a' := ?_) (bm 3 9) rfl rfl (any_of HT_.out (by kernel_rfl)) (fun _ _ _ h => h) (Or.inl ⟨by rfl, ?_⟩) ?_ ?_
             rotate_left
             ·intro w'
              go_simp
              with_reducible rfl
             rotate_left
             ·simp only [Act.put, sA, sB, sC, i64_w, i32_w]
              rfl
             refine take_ (i := 2) (N := some 50) (v := ?_) (a' := ?_) (bm 7 9) rfl rfl (take_ofW HT_.out HW_.out (by kernel_rfl)) (fun _ _ _ h => h) (Or.inl ⟨by rfl, ?_⟩) hHeld ?_ ?_
             rotate_left
             ·rintro w' ⟨s0, s1, s2, s3⟩
              go_simp
              with_reducible rfl
             rotate_left
             ·simp only [Act.put, sA, sB, sC, i64_w, i32_w]
              rfl
             refine take_ (i := 3) (N := some 51) (v := ?_) (a' := ?_) (bm 15 9) rfl rfl (take_ofW HT_.out HW_.out (by kernel_rfl)) (fun _ _ _ h => h) (Or.inl ⟨by rfl, ?_⟩) hHeld ?_ ?_
             rotate_left
             ·rintro w' ⟨s0, s1, s2, s3⟩
              go_simp
              with_reducible rfl
             rotate_left
             ·simp only [Act.put, sA, sB, sC, i64_w, i32_w]
              rfl
             refine one_ (i := 4) (N := some 52) (bm 31 9) rfl rfl (one_of HT_.out (by kernel_rfl)) (by decide) (fun K hK => ?_)
             refine goes_ Try.func68 (by kernel_rfl) rfl #[.agg #[.int .i64 ((rd_T95 l0 x16_1).f0), .int .i64 ((rd_T95 l0 x16_1).f1), .slice A445_2 ((rd_T95 l0 x16_1).f2).length c445_2, .slice A445_3 ((rd_T95 l0 x16_1).f3).length c445_3]] (by rfl) rfl rfl (by (try simp only [List.map_toArray, List.map_cons, List.map_nil]); first | done | rfl | (simp only [List.length_drop, List.length_take]; rfl)) ?_
             with_reducible refine (delta_size.calls ((rd_T95 l0 x16_1).f0) ((rd_T95 l0 x16_1).f1) _ _ ((rd_T95 l0 x16_1).f2) _ _ ((rd_T95 l0 x16_1).f3) t450 _ ?side1 ?side2 ?side3 ?side4 A21.out).mono ?_
             (case side1 => repeat (first | exact (Kd.C_below HR445_2.out HB.out) | (with_reducible refine Kd.C_alloc ?_ _) | (with_reducible refine Kd.C_drewN ?_ _) | (with_reducible refine Kd.C_drew ?_)))
             (case side2 => exact HC445_2.out)
             (case side3 => repeat (first | exact (Kd.C_below HR445_3.out HB.out) | (with_reducible refine Kd.C_alloc ?_ _) | (with_reducible refine Kd.C_drewN ?_ _) | (with_reducible refine Kd.C_drew ?_)))
             (case side4 => exact HC445_3.out)
             rintro e w28 ⟨rfl, hb⟩
             refine ⟨_, rfl, ?_⟩
             have n0_ := Aside0.mk (Kd.R_below (by (with_reducible repeat (first | apply Kd.R_alloc | apply Kd.R_drewN | apply Kd.R_drew)); exact HO_5.out) hb)
             have n1_ := Aside0.mk (blk_below (g := gb446) (o := .cells #[.int .i64 ((rd_T95 l0 x16_1).f0), .int .i64 ((rd_T95 l0 x16_1).f1), .slice A445_2 ((rd_T95 l0 x16_1).f2).length c445_2, .slice A445_3 ((rd_T95 l0 x16_1).f3).length c445_3] 95 (0, 0)) (by (with_reducible repeat (first | refine blk_drewN ?_ _ | refine blk_drew ?_ | refine blk_alloc ?_ _)); exact BK446.out) hb)
             have n2_ := Aside0.mk (below_step (by repeat (first | (with_reducible first | exact HB.out | apply below_alloc | apply pw_below_drewN | apply below_drew1 | refine below_set ?_ GE446.out) | exact HB.out)) hb)
             clear HO_5
             clear BK446
             clear HB
             have HO_5 := n0_
             have BK446 := n1_
             have HB := n2_
             clear n0_ n1_ n2_
             (try clear hb)
             (try clear hb2)
             (try clear hk)
             (try clear hi)
             refine hK.out _ _ ⟨(blk_cell BK446.out 0).trans rfl, (blk_cell BK446.out 1).trans rfl, (blk_cell BK446.out 2).trans rfl, (blk_cell BK446.out 3).trans rfl⟩ (fun hHeld => ?_)
             clear hK K
             refine norm_ (a' := ?_) ?_ ?_
             rotate_left
             ·show Act.put _ (some 52) _ = _
              simp only [Act.put, sA, sB, sC, i64_w, i32_w]
              rfl
             refine pure_ (i := 5) (N := some 53) (v := ?_) (a' := ?_) (bm 63 9) rfl rfl (any_of HT_.out (by kernel_rfl)) (fun _ _ _ h => h) (Or.inl ⟨by rfl, ?_⟩) ?_ ?_
             rotate_left
             ·intro w'
              go_simp
              with_reducible rfl
             rotate_left
             ·simp only [Act.put, sA, sB, sC, i64_w, i32_w]
              rfl
             refine one_ (i := 6) (N := some 54) (bm 127 9) rfl rfl (one_of HT_.out (by kernel_rfl)) (by decide) (fun K hK => ?_)
             refine value_ (w1 := ?_) (v := ?_) (by rfl) rfl ?_ ?_
             rotate_left 2
             ·go_simp
              constructor
              ·rfl
              ·rfl
             refine hK.out _ _ ⟨(blk_cell (blk_alloc BK446.out _) 0).trans rfl, (blk_cell (blk_alloc BK446.out _) 1).trans rfl, (blk_cell (blk_alloc BK446.out _) 2).trans rfl, (blk_cell (blk_alloc BK446.out _) 3).trans rfl⟩ (fun hHeld => ?_)
             clear hK K
             refine norm_ (a' := ?_) ?_ ?_
             rotate_left
             ·show Act.put _ (some 54) _ = _
              simp only [Act.put, sA, sB, sC, i64_w, i32_w]
              rfl
             refine one_ (i := 7) (N := some 55) (bm 255 9) rfl rfl (one_of HT_.out (by kernel_rfl)) (by decide) (fun K hK => ?_)
             refine Kd.R_append_step k121 (w0 := w) w.heap.size (by rfl) (.tmp 48) (.tmp 54) 59 121 (.agg #[(.int .i64 0), (.int .i64 0)]) 16 rfl Try.underlying59 info121 rfl (by decide) (by omega) (.slice (some ad447) x5_1.length co25) x5_1 (⟨(rd_T95 l0 x16_1).f0, t450⟩ : S121) [.int .i64 ((rd_T95 l0 x16_1).f0), .int .i64 t450] (fun _ => True) (fun _ => False) rfl rfl ?aP (fun _ hk => hk.elim) ?aF ?aO ?aB ?aS ?aL ?_
             (case aP => exact k121_mkM _ _ _ (⟨(rd_T95 l0 x16_1).f0, t450⟩ : S121))
             (case aB => exact (by repeat (first | (with_reducible first | exact HB.out | apply below_alloc | apply pw_below_drewN | apply below_drew1 | refine below_set ?_ GE446.out) | exact HB.out)))
             (case aF => exact (fun _ _ => trivial))
             (case aO => exact (by (with_reducible repeat (first | apply Kd.R_alloc | apply Kd.R_drewN | apply Kd.R_drew)); exact HO_5.out))
             (case aS => exact (below_size (by repeat (first | (with_reducible first | exact HB.out | apply below_alloc | apply pw_below_drewN | apply below_drew1 | refine below_set ?_ GE446.out) | exact HB.out))))
             (case aL => have := LMc22.out; omega)
             intro v452 w29 ho hb hg hat
             rw [← Ny451.out] at ho
             have n0_ := Aside0.mk (blk_grown (g := gb446) (o := .cells #[.int .i64 ((rd_T95 l0 x16_1).f0), .int .i64 ((rd_T95 l0 x16_1).f1), .slice A445_2 ((rd_T95 l0 x16_1).f2).length c445_2, .slice A445_3 ((rd_T95 l0 x16_1).f3).length c445_3] 95 (0, 0)) (by (with_reducible repeat (first | refine blk_drewN ?_ _ | refine blk_drew ?_ | refine blk_alloc ?_ _)); exact BK446.out) hg (Kd.R_ne HO_5.out BK446.out (by decide)))
             have n1_ := Aside0.mk (hb)
             have n2_ := Aside0.mk (ho)
             clear BK446
             clear HB
             clear HO_5
             have BK446 := n0_
             have HB := n1_
             have HO453 := n2_
             clear n0_ n1_ n2_
             clear ho hb hg hat
             refine hK.out _ _ ⟨(blk_cell BK446.out 0).trans rfl, (blk_cell BK446.out 1).trans rfl, (blk_cell BK446.out 2).trans rfl, (blk_cell BK446.out 3).trans rfl⟩ (fun hHeld => ?_)
             clear hK K
             refine norm_ (a' := ?_) ?_ ?_
             rotate_left
             ·show Act.put _ (some 55) _ = _
              simp only [Act.put, sA, sB, sC, i64_w, i32_w]
              rfl
             refine pure_ (i := 8) (N := some 5) (v := ?_) (a' := ?_) (bm 511 9) rfl rfl (any_of HT_.out (by kernel_rfl)) (fun _ _ _ h => h) (Or.inl ⟨by rfl, ?_⟩) ?_ ?_
             rotate_left
             ·intro w'
              go_simp
              with_reducible rfl
             rotate_left
             ·simp only [Act.put, sA, sB, sC, i64_w, i32_w]
              rfl
             refine done_ (done_of HT_.out (by kernel_rfl)) ?_
             try go_wp2
             go_roundg k1
             case measure => have := HK1.out; omega
             case rel => exact ⟨(y451), (wrap64 (x16_1 + 1)), (by first | rfl | (simp; done) | (simp [*]; done)), H', ⟨by have := HK1.out; omega⟩, ⟨by (with_reducible repeat (first | apply Kd.R_alloc | apply Kd.R_drewN | apply Kd.R_drew)); exact HO453.out⟩, ⟨by repeat (first | (with_reducible first | exact HB.out | apply below_alloc | apply pw_below_drewN | apply below_drew1 | refine below_set ?_ GE446.out) | exact HB.out)⟩⟩
            ·rw [if_neg c22] at H
             exact absurd H (by simp)
          ·rw [if_neg c12] at H
           exact absurd H (by simp)
         ·rw [if_neg c11] at H
          exact absurd H (by simp)
        ·rw [if_neg c9] at H
         have c9b0 : decide (0 ≤ (wrap64 ((x5_1.length : Int) - 1))) = false := decide_eq_false c9
         clear c9
         replace H := Option.bind_eq_some_iff.mp H
         obtain ⟨t454, A300, H⟩ := H
         replace H : (if x5_1.length < 8796093022208 then (delta_Axis.l0 k1 (x5_1 ++ [(⟨(rd_T95 l0 x16_1).f0, t454⟩ : S121)]) l0 (l0.length : Int) (wrap64 (x16_1 + 1))) else (none)) = some (r1, r2) := H
         have A30 := Aside0.mk A300
         clear A300
         by_cases c31 : x5_1.length < 8796093022208
         ·rw [if_pos c31] at H
          have LMc31 := Aside0.mk c31
          clear c31
          obtain ⟨y455, hy455⟩ : ∃ y_ : List (S121), y_ = (x5_1 ++ [(⟨(rd_T95 l0 x16_1).f0, t454⟩ : S121)]) := ⟨_, rfl⟩
          replace H : (delta_Axis.l0 k1 y455 l0 (l0.length : Int) (wrap64 (x16_1 + 1))) = some (r1, r2) := by first | (rw [hy455]; with_reducible exact H) | (have H2_ := (Option.bind_some _ _).symm.trans H; rw [hy455]; with_reducible exact H2_) | (have H2_ := (Option.bind_some _ _).symm.trans H; with_reducible exact H2_) | with_reducible exact H | (rw [hy455]; exact H) | exact H
          have Ny455 := Aside0.mk hy455
          clear hy455
          have H' := Aside0.mk H
          clear H
          have p445 : 0 ≤ (x16_1 : Int) := of_decide_eq_true (by assumption)
          have q445 : x16_1 < (l0.length : Int) := of_decide_eq_true (by assumption)
          obtain ⟨ad445, A445_2, c445_2, A445_3, c445_3, e445, hx445_0, hx445_1, hx445_2, hx445_3, hl445_2, hi445_2, hl445_3, hi445_3⟩ := at_T95 HR0.out x16_1 p445 q445
          cases e445
          replace hx445_0 := (HB.out.cell (World.block_lt_of_cell? w _ hx445_0)).trans hx445_0
          replace hx445_1 := (HB.out.cell (World.block_lt_of_cell? w _ hx445_1)).trans hx445_1
          replace hx445_2 := (HB.out.cell (World.block_lt_of_cell? w _ hx445_2)).trans hx445_2
          replace hx445_3 := (HB.out.cell (World.block_lt_of_cell? w _ hx445_3)).trans hx445_3
          have HR445_2 := Aside0.mk hi445_2
          have HC445_2 := Aside0.mk hl445_2
          clear hi445_2 hl445_2
          have HR445_3 := Aside0.mk hi445_3
          have HC445_3 := Aside0.mk hl445_3
          clear hi445_3 hl445_3
          replace p445 := eq_true p445
          replace q445 := eq_true q445
          try go_wp2_with (first | ((with_reducible refine gate_dst (N := 7) rfl ?_); refine box_event ?hg (N := 7) ?hd (cs := #[.int .i64 0, .int .i64 0, .slice none 0 0, .slice none 0 0]) (t := 95) ?hr ?_; (case hd => rfl); (case hg => rfl); (case hr => first | (go_simp; done) | (go_simp; rfl)); intro gb446 hg w32 hbox hb; have n0_ := Aside0.mk (Kd.R_below (by (with_reducible repeat (first | apply Kd.R_alloc | apply Kd.R_drewN | apply Kd.R_drew)); exact HO_5.out) hb); have n1_ := Aside0.mk (below_step (by with_reducible repeat first | exact HB.out | apply below_alloc | apply pw_below_drewN | apply below_drew1) hb); have n2_ := Aside0.mk (hbox); have n3_ := Aside0.mk ((by rw [hg]; exact (below_size (by with_reducible repeat first | exact HB.out | apply below_alloc | apply pw_below_drewN | apply below_drew1)) : w.heap.size ≤ gb446)); have n4_ := Aside0.mk ((by rw [hg]; exact (below_size (by with_reducible repeat first | exact HB.out | apply below_alloc | apply pw_below_drewN | apply below_drew1)) : w.heap.size ≤ gb446)); clear HO_5; clear HB; have HO_5 := n0_; have HB := n1_; have BK446 := n2_; have GW446 := n3_; have GE446 := n4_; clear n0_ n1_ n2_ n3_ n4_; clear hb hbox hg; have hcz33_0 : w32.cell? ⟨gb446, 0, none⟩ = some (.int .i64 0) := (blk_cell BK446.out 0).trans rfl; have hcz33_1 : w32.cell? ⟨gb446, 1, none⟩ = some (.int .i64 0) := (blk_cell BK446.out 1).trans rfl; have hcz33_2 : w32.cell? ⟨gb446, 2, none⟩ = some (.slice none 0 0) := (blk_cell BK446.out 2).trans rfl; have hcz33_3 : w32.cell? ⟨gb446, 3, none⟩ = some (.slice none 0 0) := (blk_cell BK446.out 3).trans rfl; have hfz33_0 := blk_frozen BK446.out 0; have hfz33_1 := blk_frozen BK446.out 1; have hfz33_2 := blk_frozen BK446.out 2; have hfz33_3 := blk_frozen BK446.out 3; obtain ⟨Ao34, co34, eo34⟩ := Kd.R_slice HO_5.out; subst eo34))
          have n0_ : Aside0 (Kd.R k121 121 ((((w32.setCell ⟨gb446, 0, none⟩ (.int .i64 ((rd_T95 l0 x16_1).f0))).setCell ⟨gb446, 1, none⟩ (.int .i64 ((rd_T95 l0 x16_1).f1))).setCell ⟨gb446, 2, none⟩ (.slice A445_2 ((rd_T95 l0 x16_1).f2).length c445_2)).setCell ⟨gb446, 3, none⟩ (.slice A445_3 ((rd_T95 l0 x16_1).f3).length c445_3)) w.heap.size (fun _ => True) (.slice Ao34 x5_1.length co34) x5_1) := ⟨by (with_reducible repeat (first | apply Kd.R_alloc | apply Kd.R_drewN | apply Kd.R_drew)); exact Kd.R_mono (Kd.R_far (p := ⟨gb446, 3, none⟩) (Kd.R_far (p := ⟨gb446, 2, none⟩) (Kd.R_far (p := ⟨gb446, 1, none⟩) (Kd.R_far (p := ⟨gb446, 0, none⟩) (Kd.R_types HO_5.out BK446.out (by decide)) (fun _ hk => hk.2) (.int .i64 ((rd_T95 l0 x16_1).f0))) (fun _ hk => hk.2) (.int .i64 ((rd_T95 l0 x16_1).f1))) (fun _ hk => hk.2) (.slice A445_2 ((rd_T95 l0 x16_1).f2).length c445_2)) (fun _ hk => hk.2) (.slice A445_3 ((rd_T95 l0 x16_1).f3).length c445_3)) (fun _ hk => trivial)⟩
          have n1_ : Aside0 (((((w32.setCell ⟨gb446, 0, none⟩ (.int .i64 ((rd_T95 l0 x16_1).f0))).setCell ⟨gb446, 1, none⟩ (.int .i64 ((rd_T95 l0 x16_1).f1))).setCell ⟨gb446, 2, none⟩ (.slice A445_2 ((rd_T95 l0 x16_1).f2).length c445_2)).setCell ⟨gb446, 3, none⟩ (.slice A445_3 ((rd_T95 l0 x16_1).f3).length c445_3)).heap[gb446]? = some (.cells #[.int .i64 ((rd_T95 l0 x16_1).f0), .int .i64 ((rd_T95 l0 x16_1).f1), .slice A445_2 ((rd_T95 l0 x16_1).f2).length c445_2, .slice A445_3 ((rd_T95 l0 x16_1).f3).length c445_3] 95 (0, 0))) := ⟨by (with_reducible repeat (first | refine blk_drewN ?_ _ | refine blk_drew ?_ | refine blk_alloc ?_ _)); refine blk_put (cs := #[.int .i64 ((rd_T95 l0 x16_1).f0), .int .i64 ((rd_T95 l0 x16_1).f1), .slice A445_2 ((rd_T95 l0 x16_1).f2).length c445_2, .slice none 0 0]) ?_ 3 _ rfl; (with_reducible repeat (first | refine blk_drewN ?_ _ | refine blk_drew ?_ | refine blk_alloc ?_ _)); refine blk_put (cs := #[.int .i64 ((rd_T95 l0 x16_1).f0), .int .i64 ((rd_T95 l0 x16_1).f1), .slice none 0 0, .slice none 0 0]) ?_ 2 _ rfl; (with_reducible repeat (first | refine blk_drewN ?_ _ | refine blk_drew ?_ | refine blk_alloc ?_ _)); refine blk_put (cs := #[.int .i64 ((rd_T95 l0 x16_1).f0), .int .i64 0, .slice none 0 0, .slice none 0 0]) ?_ 1 _ rfl; (with_reducible repeat (first | refine blk_drewN ?_ _ | refine blk_drew ?_ | refine blk_alloc ?_ _)); refine blk_put (cs := #[.int .i64 0, .int .i64 0, .slice none 0 0, .slice none 0 0]) ?_ 0 _ rfl; (with_reducible repeat (first | refine blk_drewN ?_ _ | refine blk_drew ?_ | refine blk_alloc ?_ _)); exact BK446.out⟩
          have n2_ : Aside0 (Below w.heap.size w ((((w32.setCell ⟨gb446, 0, none⟩ (.int .i64 ((rd_T95 l0 x16_1).f0))).setCell ⟨gb446, 1, none⟩ (.int .i64 ((rd_T95 l0 x16_1).f1))).setCell ⟨gb446, 2, none⟩ (.slice A445_2 ((rd_T95 l0 x16_1).f2).length c445_2)).setCell ⟨gb446, 3, none⟩ (.slice A445_3 ((rd_T95 l0 x16_1).f3).length c445_3))) := ⟨by repeat (first | (with_reducible first | exact HB.out | apply below_alloc | apply pw_below_drewN | apply below_drew1 | refine below_set ?_ GE446.out) | exact HB.out)⟩
          (try clear HO_5)
          (try clear BK446)
          (try clear HB)
          generalize ((((w32.setCell ⟨gb446, 0, none⟩ (.int .i64 ((rd_T95 l0 x16_1).f0))).setCell ⟨gb446, 1, none⟩ (.int .i64 ((rd_T95 l0 x16_1).f1))).setCell ⟨gb446, 2, none⟩ (.slice A445_2 ((rd_T95 l0 x16_1).f2).length c445_2)).setCell ⟨gb446, 3, none⟩ (.slice A445_3 ((rd_T95 l0 x16_1).f3).length c445_3)) = w35 at n0_ n1_ n2_ ⊢
          have HO_5 := n0_
          have BK446 := n1_
          have HB := n2_
          clear n0_ n1_ n2_
          have n0_ := Aside0.mk (Kd.R_drew HO_5.out)
          have n1_ := Aside0.mk (blk_drew BK446.out)
          have n2_ := Aside0.mk (below_drew1 HB.out)
          clear HO_5
          clear BK446
          clear HB
          have HO_5 := n0_
          have BK446 := n1_
          have HB := n2_
          clear n0_ n1_ n2_
          refine start_ (n := 9) (S := fun w' => w'.cell? ⟨gb446, 0, none⟩ = some (.int .i64 ((rd_T95 l0 x16_1).f0)) ∧ w'.cell? ⟨gb446, 1, none⟩ = some (.int .i64 ((rd_T95 l0 x16_1).f1)) ∧ w'.cell? ⟨gb446, 2, none⟩ = some (.slice A445_2 ((rd_T95 l0 x16_1).f2).length c445_2) ∧ w'.cell? ⟨gb446, 3, none⟩ = some (.slice A445_3 ((rd_T95 l0 x16_1).f3).length c445_3)) (ds := []) #[false, false, false, false, false, false, false, false, false] (by kernel_rfl) rfl rfl ⟨(blk_cell BK446.out 0).trans rfl, (blk_cell BK446.out 1).trans rfl, (blk_cell BK446.out 2).trans rfl, (blk_cell BK446.out 3).trans rfl⟩ (fun hHeld => ?_); refine with_tabW delta_Axis.tab11 delta_Axis.bits11 (fun HT_ HW_ => ?_)
          generalize w35.drew = w36 at HO_5 BK446 HB hHeld ⊢
          refine pure_ (i := 0) (N := some 48) (v := ?_) (a' := ?_) (bm 1 9) rfl rfl (any_of HT_.out (by kernel_rfl)) (fun _ _ _ h => h) (Or.inl ⟨by rfl, ?_⟩) ?_ ?_
          rotate_left
          ·intro w'
           go_simp
           with_reducible rfl
          rotate_left
          ·simp only [Act.put, sA, sB, sC, i64_w, i32_w]
           rfl
          refine pure_ (i := 1) (N := some 49) (v := ?_) (a' := ?_) (bm 3 9) rfl rfl (any_of HT_.out (by kernel_rfl)) (fun _ _ _ h => h) (Or.inl ⟨by rfl, ?_⟩) ?_ ?_
          rotate_left
          ·intro w'
           go_simp
           with_reducible rfl
          rotate_left
          ·simp only [Act.put, sA, sB, sC, i64_w, i32_w]
           rfl
          refine take_ (i := 2) (N := some 50) (v := ?_) (a' := ?_) (bm 7 9) rfl rfl (take_ofW HT_.out HW_.out (by kernel_rfl)) (fun _ _ _ h => h) (Or.inl ⟨by rfl, ?_⟩) hHeld ?_ ?_
          rotate_left
          ·rintro w' ⟨s0, s1, s2, s3⟩
           go_simp
           with_reducible rfl
          rotate_left
          ·simp only [Act.put, sA, sB, sC, i64_w, i32_w]
           rfl
          refine take_ (i := 3) (N := some 51) (v := ?_) (a' := ?_) (bm 15 9) rfl rfl (take_ofW HT_.out HW_.out (by kernel_rfl)) (fun _ _ _ h => h) (Or.inl ⟨by rfl, ?_⟩) hHeld ?_ ?_
          rotate_left
          ·rintro w' ⟨s0, s1, s2, s3⟩
           go_simp
           with_reducible rfl
          rotate_left
          ·simp only [Act.put, sA, sB, sC, i64_w, i32_w]
           rfl
          refine one_ (i := 4) (N := some 52) (bm 31 9) rfl rfl (one_of HT_.out (by kernel_rfl)) (by decide) (fun K hK => ?_)
          refine goes_ Try.func68 (by kernel_rfl) rfl #[.agg #[.int .i64 ((rd_T95 l0 x16_1).f0), .int .i64 ((rd_T95 l0 x16_1).f1), .slice A445_2 ((rd_T95 l0 x16_1).f2).length c445_2, .slice A445_3 ((rd_T95 l0 x16_1).f3).length c445_3]] (by rfl) rfl rfl (by (try simp only [List.map_toArray, List.map_cons, List.map_nil]); first | done | rfl | (simp only [List.length_drop, List.length_take]; rfl)) ?_
          with_reducible refine (delta_size.calls ((rd_T95 l0 x16_1).f0) ((rd_T95 l0 x16_1).f1) _ _ ((rd_T95 l0 x16_1).f2) _ _ ((rd_T95 l0 x16_1).f3) t454 _ ?side1 ?side2 ?side3 ?side4 A30.out).mono ?_
          (case side1 => repeat (first | exact (Kd.C_below HR445_2.out HB.out) | (with_reducible refine Kd.C_alloc ?_ _) | (with_reducible refine Kd.C_drewN ?_ _) | (with_reducible refine Kd.C_drew ?_)))
          (case side2 => exact HC445_2.out)
          (case side3 => repeat (first | exact (Kd.C_below HR445_3.out HB.out) | (with_reducible refine Kd.C_alloc ?_ _) | (with_reducible refine Kd.C_drewN ?_ _) | (with_reducible refine Kd.C_drew ?_)))
          (case side4 => exact HC445_3.out)
          rintro e w37 ⟨rfl, hb⟩
          refine ⟨_, rfl, ?_⟩
          have n0_ := Aside0.mk (Kd.R_below (by (with_reducible repeat (first | apply Kd.R_alloc | apply Kd.R_drewN | apply Kd.R_drew)); exact HO_5.out) hb)
          have n1_ := Aside0.mk (blk_below (g := gb446) (o := .cells #[.int .i64 ((rd_T95 l0 x16_1).f0), .int .i64 ((rd_T95 l0 x16_1).f1), .slice A445_2 ((rd_T95 l0 x16_1).f2).length c445_2, .slice A445_3 ((rd_T95 l0 x16_1).f3).length c445_3] 95 (0, 0)) (by (with_reducible repeat (first | refine blk_drewN ?_ _ | refine blk_drew ?_ | refine blk_alloc ?_ _)); exact BK446.out) hb)
          have n2_ := Aside0.mk (below_step (by repeat (first | (with_reducible first | exact HB.out | apply below_alloc | apply pw_below_drewN | apply below_drew1 | refine below_set ?_ GE446.out) | exact HB.out)) hb)
          clear HO_5
          clear BK446
          clear HB
          have HO_5 := n0_
          have BK446 := n1_
          have HB := n2_
          clear n0_ n1_ n2_
          (try clear hb)
          (try clear hb2)
          (try clear hk)
          (try clear hi)
          refine hK.out _ _ ⟨(blk_cell BK446.out 0).trans rfl, (blk_cell BK446.out 1).trans rfl, (blk_cell BK446.out 2).trans rfl, (blk_cell BK446.out 3).trans rfl⟩ (fun hHeld => ?_)
          clear hK K
          refine norm_ (a' := ?_) ?_ ?_
          rotate_left
          ·show Act.put _ (some 52) _ = _
           simp only [Act.put, sA, sB, sC, i64_w, i32_w]
           rfl
          refine pure_ (i := 5) (N := some 53) (v := ?_) (a' := ?_) (bm 63 9) rfl rfl (any_of HT_.out (by kernel_rfl)) (fun _ _ _ h => h) (Or.inl ⟨by rfl, ?_⟩) ?_ ?_
          rotate_left
          ·intro w'
           go_simp
           with_reducible rfl
          rotate_left
          ·simp only [Act.put, sA, sB, sC, i64_w, i32_w]
           rfl
          refine one_ (i := 6) (N := some 54) (bm 127 9) rfl rfl (one_of HT_.out (by kernel_rfl)) (by decide) (fun K hK => ?_)
          refine value_ (w1 := ?_) (v := ?_) (by rfl) rfl ?_ ?_
          rotate_left 2
          ·go_simp
           constructor
           ·rfl
           ·rfl
          refine hK.out _ _ ⟨(blk_cell (blk_alloc BK446.out _) 0).trans rfl, (blk_cell (blk_alloc BK446.out _) 1).trans rfl, (blk_cell (blk_alloc BK446.out _) 2).trans rfl, (blk_cell (blk_alloc BK446.out _) 3).trans rfl⟩ (fun hHeld => ?_)
          clear hK K
          refine norm_ (a' := ?_) ?_ ?_
          rotate_left
          ·show Act.put _ (some 54) _ = _
           simp only [Act.put, sA, sB, sC, i64_w, i32_w]
           rfl
          refine one_ (i := 7) (N := some 55) (bm 255 9) rfl rfl (one_of HT_.out (by kernel_rfl)) (by decide) (fun K hK => ?_)
          refine Kd.R_append_step k121 (w0 := w) w.heap.size (by rfl) (.tmp 48) (.tmp 54) 59 121 (.agg #[(.int .i64 0), (.int .i64 0)]) 16 rfl Try.underlying59 info121 rfl (by decide) (by omega) (.slice Ao34 x5_1.length co34) x5_1 (⟨(rd_T95 l0 x16_1).f0, t454⟩ : S121) [.int .i64 ((rd_T95 l0 x16_1).f0), .int .i64 t454] (fun _ => True) (fun _ => False) rfl rfl ?aP (fun _ hk => hk.elim) ?aF ?aO ?aB ?aS ?aL ?_
          (case aP => exact k121_mkM _ _ _ (⟨(rd_T95 l0 x16_1).f0, t454⟩ : S121))
          (case aB => exact (by repeat (first | (with_reducible first | exact HB.out | apply below_alloc | apply pw_below_drewN | apply below_drew1 | refine below_set ?_ GE446.out) | exact HB.out)))
          (case aF => exact (fun _ _ => trivial))
          (case aO => exact (by (with_reducible repeat (first | apply Kd.R_alloc | apply Kd.R_drewN | apply Kd.R_drew)); exact HO_5.out))
          (case aS => exact (below_size (by repeat (first | (with_reducible first | exact HB.out | apply below_alloc | apply pw_below_drewN | apply below_drew1 | refine below_set ?_ GE446.out) | exact HB.out))))
          (case aL => have := LMc31.out; omega)
          intro v456 w38 ho hb hg hat
          rw [← Ny455.out] at ho
          have n0_ := Aside0.mk (blk_grown (g := gb446) (o := .cells #[.int .i64 ((rd_T95 l0 x16_1).f0), .int .i64 ((rd_T95 l0 x16_1).f1), .slice A445_2 ((rd_T95 l0 x16_1).f2).length c445_2, .slice A445_3 ((rd_T95 l0 x16_1).f3).length c445_3] 95 (0, 0)) (by (with_reducible repeat (first | refine blk_drewN ?_ _ | refine blk_drew ?_ | refine blk_alloc ?_ _)); exact BK446.out) hg (Kd.R_ne HO_5.out BK446.out (by decide)))
          have n1_ := Aside0.mk (hb)
          have n2_ := Aside0.mk (ho)
          clear BK446
          clear HB
          clear HO_5
          have BK446 := n0_
          have HB := n1_
          have HO457 := n2_
          clear n0_ n1_ n2_
          clear ho hb hg hat
          refine hK.out _ _ ⟨(blk_cell BK446.out 0).trans rfl, (blk_cell BK446.out 1).trans rfl, (blk_cell BK446.out 2).trans rfl, (blk_cell BK446.out 3).trans rfl⟩ (fun hHeld => ?_)
          clear hK K
          refine norm_ (a' := ?_) ?_ ?_
          rotate_left
          ·show Act.put _ (some 55) _ = _
           simp only [Act.put, sA, sB, sC, i64_w, i32_w]
           rfl
          refine pure_ (i := 8) (N := some 5) (v := ?_) (a' := ?_) (bm 511 9) rfl rfl (any_of HT_.out (by kernel_rfl)) (fun _ _ _ h => h) (Or.inl ⟨by rfl, ?_⟩) ?_ ?_
          rotate_left
          ·intro w'
           go_simp
           with_reducible rfl
          rotate_left
          ·simp only [Act.put, sA, sB, sC, i64_w, i32_w]
           rfl
          refine done_ (done_of HT_.out (by kernel_rfl)) ?_
          try go_wp2
          go_roundg k1
          case measure => have := HK1.out; omega
          case rel => exact ⟨(y455), (wrap64 (x16_1 + 1)), (by first | rfl | (simp; done) | (simp [*]; done)), H', ⟨by have := HK1.out; omega⟩, ⟨by (with_reducible repeat (first | apply Kd.R_alloc | apply Kd.R_drewN | apply Kd.R_drew)); exact HO457.out⟩, ⟨by repeat (first | (with_reducible first | exact HB.out | apply below_alloc | apply pw_below_drewN | apply below_drew1 | refine below_set ?_ GE446.out) | exact HB.out)⟩⟩
         ·rw [if_neg c31] at H
          exact absurd H (by simp)
       ·rw [if_neg c8] at H
        have c8b0 : (((rd_T95 l0 x16_1).f0) == 0) = false := beq_eq_false_iff_ne.mpr c8
        have c8b1 : (((rd_T95 l0 x16_1).f0) != 0) = true := bne_iff_ne.mpr c8
        replace H := Option.bind_eq_some_iff.mp H
        obtain ⟨t458, A390, H⟩ := H
        replace H : (if x5_1.length < 8796093022208 then (delta_Axis.l0 k1 (x5_1 ++ [(⟨(rd_T95 l0 x16_1).f0, t458⟩ : S121)]) l0 (l0.length : Int) (wrap64 (x16_1 + 1))) else (none)) = some (r1, r2) := H
        have A39 := Aside0.mk A390
        clear A390
        by_cases c40 : x5_1.length < 8796093022208
        ·rw [if_pos c40] at H
         have LMc40 := Aside0.mk c40
         clear c40
         obtain ⟨y459, hy459⟩ : ∃ y_ : List (S121), y_ = (x5_1 ++ [(⟨(rd_T95 l0 x16_1).f0, t458⟩ : S121)]) := ⟨_, rfl⟩
         replace H : (delta_Axis.l0 k1 y459 l0 (l0.length : Int) (wrap64 (x16_1 + 1))) = some (r1, r2) := by first | (rw [hy459]; with_reducible exact H) | (have H2_ := (Option.bind_some _ _).symm.trans H; rw [hy459]; with_reducible exact H2_) | (have H2_ := (Option.bind_some _ _).symm.trans H; with_reducible exact H2_) | with_reducible exact H | (rw [hy459]; exact H) | exact H
         have Ny459 := Aside0.mk hy459
         clear hy459
         have H' := Aside0.mk H
         clear H
         have p445 : 0 ≤ (x16_1 : Int) := of_decide_eq_true (by assumption)
         have q445 : x16_1 < (l0.length : Int) := of_decide_eq_true (by assumption)
         obtain ⟨ad445, A445_2, c445_2, A445_3, c445_3, e445, hx445_0, hx445_1, hx445_2, hx445_3, hl445_2, hi445_2, hl445_3, hi445_3⟩ := at_T95 HR0.out x16_1 p445 q445
         cases e445
         replace hx445_0 := (HB.out.cell (World.block_lt_of_cell? w _ hx445_0)).trans hx445_0
         replace hx445_1 := (HB.out.cell (World.block_lt_of_cell? w _ hx445_1)).trans hx445_1
         replace hx445_2 := (HB.out.cell (World.block_lt_of_cell? w _ hx445_2)).trans hx445_2
         replace hx445_3 := (HB.out.cell (World.block_lt_of_cell? w _ hx445_3)).trans hx445_3
         have HR445_2 := Aside0.mk hi445_2
         have HC445_2 := Aside0.mk hl445_2
         clear hi445_2 hl445_2
         have HR445_3 := Aside0.mk hi445_3
         have HC445_3 := Aside0.mk hl445_3
         clear hi445_3 hl445_3
         replace p445 := eq_true p445
         replace q445 := eq_true q445
         try go_wp2_with (first | ((with_reducible refine gate_dst (N := 7) rfl ?_); refine box_event ?hg (N := 7) ?hd (cs := #[.int .i64 0, .int .i64 0, .slice none 0 0, .slice none 0 0]) (t := 95) ?hr ?_; (case hd => rfl); (case hg => rfl); (case hr => first | (go_simp; done) | (go_simp; rfl)); intro gb446 hg w41 hbox hb; have n0_ := Aside0.mk (Kd.R_below (by (with_reducible repeat (first | apply Kd.R_alloc | apply Kd.R_drewN | apply Kd.R_drew)); exact HO_5.out) hb); have n1_ := Aside0.mk (below_step (by with_reducible repeat first | exact HB.out | apply below_alloc | apply pw_below_drewN | apply below_drew1) hb); have n2_ := Aside0.mk (hbox); have n3_ := Aside0.mk ((by rw [hg]; exact (below_size (by with_reducible repeat first | exact HB.out | apply below_alloc | apply pw_below_drewN | apply below_drew1)) : w.heap.size ≤ gb446)); have n4_ := Aside0.mk ((by rw [hg]; exact (below_size (by with_reducible repeat first | exact HB.out | apply below_alloc | apply pw_below_drewN | apply below_drew1)) : w.heap.size ≤ gb446)); clear HO_5; clear HB; have HO_5 := n0_; have HB := n1_; have BK446 := n2_; have GW446 := n3_; have GE446 := n4_; clear n0_ n1_ n2_ n3_ n4_; clear hb hbox hg; have hcz42_0 : w41.cell? ⟨gb446, 0, none⟩ = some (.int .i64 0) := (blk_cell BK446.out 0).trans rfl; have hcz42_1 : w41.cell? ⟨gb446, 1, none⟩ = some (.int .i64 0) := (blk_cell BK446.out 1).trans rfl; have hcz42_2 : w41.cell? ⟨gb446, 2, none⟩ = some (.slice none 0 0) := (blk_cell BK446.out 2).trans rfl; have hcz42_3 : w41.cell? ⟨gb446, 3, none⟩ = some (.slice none 0 0) := (blk_cell BK446.out 3).trans rfl; have hfz42_0 := blk_frozen BK446.out 0; have hfz42_1 := blk_frozen BK446.out 1; have hfz42_2 := blk_frozen BK446.out 2; have hfz42_3 := blk_frozen BK446.out 3; obtain ⟨Ao43, co43, eo43⟩ := Kd.R_slice HO_5.out; subst eo43))
         have n0_ : Aside0 (Kd.R k121 121 ((((w41.setCell ⟨gb446, 0, none⟩ (.int .i64 ((rd_T95 l0 x16_1).f0))).setCell ⟨gb446, 1, none⟩ (.int .i64 ((rd_T95 l0 x16_1).f1))).setCell ⟨gb446, 2, none⟩ (.slice A445_2 ((rd_T95 l0 x16_1).f2).length c445_2)).setCell ⟨gb446, 3, none⟩ (.slice A445_3 ((rd_T95 l0 x16_1).f3).length c445_3)) w.heap.size (fun _ => True) (.slice Ao43 x5_1.length co43) x5_1) := ⟨by (with_reducible repeat (first | apply Kd.R_alloc | apply Kd.R_drewN | apply Kd.R_drew)); exact Kd.R_mono (Kd.R_far (p := ⟨gb446, 3, none⟩) (Kd.R_far (p := ⟨gb446, 2, none⟩) (Kd.R_far (p := ⟨gb446, 1, none⟩) (Kd.R_far (p := ⟨gb446, 0, none⟩) (Kd.R_types HO_5.out BK446.out (by decide)) (fun _ hk => hk.2) (.int .i64 ((rd_T95 l0 x16_1).f0))) (fun _ hk => hk.2) (.int .i64 ((rd_T95 l0 x16_1).f1))) (fun _ hk => hk.2) (.slice A445_2 ((rd_T95 l0 x16_1).f2).length c445_2)) (fun _ hk => hk.2) (.slice A445_3 ((rd_T95 l0 x16_1).f3).length c445_3)) (fun _ hk => trivial)⟩
         have n1_ : Aside0 (((((w41.setCell ⟨gb446, 0, none⟩ (.int .i64 ((rd_T95 l0 x16_1).f0))).setCell ⟨gb446, 1, none⟩ (.int .i64 ((rd_T95 l0 x16_1).f1))).setCell ⟨gb446, 2, none⟩ (.slice A445_2 ((rd_T95 l0 x16_1).f2).length c445_2)).setCell ⟨gb446, 3, none⟩ (.slice A445_3 ((rd_T95 l0 x16_1).f3).length c445_3)).heap[gb446]? = some (.cells #[.int .i64 ((rd_T95 l0 x16_1).f0), .int .i64 ((rd_T95 l0 x16_1).f1), .slice A445_2 ((rd_T95 l0 x16_1).f2).length c445_2, .slice A445_3 ((rd_T95 l0 x16_1).f3).length c445_3] 95 (0, 0))) := ⟨by (with_reducible repeat (first | refine blk_drewN ?_ _ | refine blk_drew ?_ | refine blk_alloc ?_ _)); refine blk_put (cs := #[.int .i64 ((rd_T95 l0 x16_1).f0), .int .i64 ((rd_T95 l0 x16_1).f1), .slice A445_2 ((rd_T95 l0 x16_1).f2).length c445_2, .slice none 0 0]) ?_ 3 _ rfl; (with_reducible repeat (first | refine blk_drewN ?_ _ | refine blk_drew ?_ | refine blk_alloc ?_ _)); refine blk_put (cs := #[.int .i64 ((rd_T95 l0 x16_1).f0), .int .i64 ((rd_T95 l0 x16_1).f1), .slice none 0 0, .slice none 0 0]) ?_ 2 _ rfl; (with_reducible repeat (first | refine blk_drewN ?_ _ | refine blk_drew ?_ | refine blk_alloc ?_ _)); refine blk_put (cs := #[.int .i64 ((rd_T95 l0 x16_1).f0), .int .i64 0, .slice none 0 0, .slice none 0 0]) ?_ 1 _ rfl; (with_reducible repeat (first | refine blk_drewN ?_ _ | refine blk_drew ?_ | refine blk_alloc ?_ _)); refine blk_put (cs := #[.int .i64 0, .int .i64 0, .slice none 0 0, .slice none 0 0]) ?_ 0 _ rfl; (with_reducible repeat (first | refine blk_drewN ?_ _ | refine blk_drew ?_ | refine blk_alloc ?_ _)); exact BK446.out⟩
         have n2_ : Aside0 (Below w.heap.size w ((((w41.setCell ⟨gb446, 0, none⟩ (.int .i64 ((rd_T95 l0 x16_1).f0))).setCell ⟨gb446, 1, none⟩ (.int .i64 ((rd_T95 l0 x16_1).f1))).setCell ⟨gb446, 2, none⟩ (.slice A445_2 ((rd_T95 l0 x16_1).f2).length c445_2)).setCell ⟨gb446, 3, none⟩ (.slice A445_3 ((rd_T95 l0 x16_1).f3).length c445_3))) := ⟨by repeat (first | (with_reducible first | exact HB.out | apply below_alloc | apply pw_below_drewN | apply below_drew1 | refine below_set ?_ GE446.out) | exact HB.out)⟩
         (try clear HO_5)
         (try clear BK446)
         (try clear HB)
         generalize ((((w41.setCell ⟨gb446, 0, none⟩ (.int .i64 ((rd_T95 l0 x16_1).f0))).setCell ⟨gb446, 1, none⟩ (.int .i64 ((rd_T95 l0 x16_1).f1))).setCell ⟨gb446, 2, none⟩ (.slice A445_2 ((rd_T95 l0 x16_1).f2).length c445_2)).setCell ⟨gb446, 3, none⟩ (.slice A445_3 ((rd_T95 l0 x16_1).f3).length c445_3)) = w44 at n0_ n1_ n2_ ⊢
         have HO_5 := n0_
         have BK446 := n1_
         have HB := n2_
         clear n0_ n1_ n2_
         have n0_ := Aside0.mk (Kd.R_drew HO_5.out)
         have n1_ := Aside0.mk (blk_drew BK446.out)
         have n2_ := Aside0.mk (below_drew1 HB.out)
         clear HO_5
         clear BK446
         clear HB
         have HO_5 := n0_
         have BK446 := n1_
         have HB := n2_
         clear n0_ n1_ n2_
         refine start_ (n := 9) (S := fun w' => w'.cell? ⟨gb446, 0, none⟩ = some (.int .i64 ((rd_T95 l0 x16_1).f0)) ∧ w'.cell? ⟨gb446, 1, none⟩ = some (.int .i64 ((rd_T95 l0 x16_1).f1)) ∧ w'.cell? ⟨gb446, 2, none⟩ = some (.slice A445_2 ((rd_T95 l0 x16_1).f2).length c445_2) ∧ w'.cell? ⟨gb446, 3, none⟩ = some (.slice A445_3 ((rd_T95 l0 x16_1).f3).length c445_3)) (ds := []) #[false, false, false, false, false, false, false, false, false] (by kernel_rfl) rfl rfl ⟨(blk_cell BK446.out 0).trans rfl, (blk_cell BK446.out 1).trans rfl, (blk_cell BK446.out 2).trans rfl, (blk_cell BK446.out 3).trans rfl⟩ (fun hHeld => ?_); refine with_tabW delta_Axis.tab11 delta_Axis.bits11 (fun HT_ HW_ => ?_)
         generalize w44.drew = w45 at HO_5 BK446 HB hHeld ⊢
         refine pure_ (i := 0) (N := some 48) (v := ?_) (a' := ?_) (bm 1 9) rfl rfl (any_of HT_.out (by kernel_rfl)) (fun _ _ _ h => h) (Or.inl ⟨by rfl, ?_⟩) ?_ ?_
         rotate_left
         ·intro w'
          go_simp
          with_reducible rfl
         rotate_left
         ·simp only [Act.put, sA, sB, sC, i64_w, i32_w]
          rfl
         refine pure_ (i := 1) (N := some 49) (v := ?_) (a' := ?_) (bm 3 9) rfl rfl (any_of HT_.out (by kernel_rfl)) (fun _ _ _ h => h) (Or.inl ⟨by rfl, ?_⟩) ?_ ?_
         rotate_left
         ·intro w'
          go_simp
          with_reducible rfl
         rotate_left
         ·simp only [Act.put, sA, sB, sC, i64_w, i32_w]
          rfl
         refine take_ (i := 2) (N := some 50) (v := ?_) (a' := ?_) (bm 7 9) rfl rfl (take_ofW HT_.out HW_.out (by kernel_rfl)) (fun _ _ _ h => h) (Or.inl ⟨by rfl, ?_⟩) hHeld ?_ ?_
         rotate_left
         ·rintro w' ⟨s0, s1, s2, s3⟩
          go_simp
          with_reducible rfl
         rotate_left
         ·simp only [Act.put, sA, sB, sC, i64_w, i32_w]
          rfl
         refine take_ (i := 3) (N := some 51) (v := ?_) (a' := ?_) (bm 15 9) rfl rfl (take_ofW HT_.out HW_.out (by kernel_rfl)) (fun _ _ _ h => h) (Or.inl ⟨by rfl, ?_⟩) hHeld ?_ ?_
         rotate_left
         ·rintro w' ⟨s0, s1, s2, s3⟩
          go_simp
          with_reducible rfl
         rotate_left
         ·simp only [Act.put, sA, sB, sC, i64_w, i32_w]
          rfl
         refine one_ (i := 4) (N := some 52) (bm 31 9) rfl rfl (one_of HT_.out (by kernel_rfl)) (by decide) (fun K hK => ?_)
         refine goes_ Try.func68 (by kernel_rfl) rfl #[.agg #[.int .i64 ((rd_T95 l0 x16_1).f0), .int .i64 ((rd_T95 l0 x16_1).f1), .slice A445_2 ((rd_T95 l0 x16_1).f2).length c445_2, .slice A445_3 ((rd_T95 l0 x16_1).f3).length c445_3]] (by rfl) rfl rfl (by (try simp only [List.map_toArray, List.map_cons, List.map_nil]); first | done | rfl | (simp only [List.length_drop, List.length_take]; rfl)) ?_
         with_reducible refine (delta_size.calls ((rd_T95 l0 x16_1).f0) ((rd_T95 l0 x16_1).f1) _ _ ((rd_T95 l0 x16_1).f2) _ _ ((rd_T95 l0 x16_1).f3) t458 _ ?side1 ?side2 ?side3 ?side4 A39.out).mono ?_
         (case side1 => repeat (first | exact (Kd.C_below HR445_2.out HB.out) | (with_reducible refine Kd.C_alloc ?_ _) | (with_reducible refine Kd.C_drewN ?_ _) | (with_reducible refine Kd.C_drew ?_)))
         (case side2 => exact HC445_2.out)
         (case side3 => repeat (first | exact (Kd.C_below HR445_3.out HB.out) | (with_reducible refine Kd.C_alloc ?_ _) | (with_reducible refine Kd.C_drewN ?_ _) | (with_reducible refine Kd.C_drew ?_)))
         (case side4 => exact HC445_3.out)
         rintro e w46 ⟨rfl, hb⟩
         refine ⟨_, rfl, ?_⟩
         have n0_ := Aside0.mk (Kd.R_below (by (with_reducible repeat (first | apply Kd.R_alloc | apply Kd.R_drewN | apply Kd.R_drew)); exact HO_5.out) hb)
         have n1_ := Aside0.mk (blk_below (g := gb446) (o := .cells #[.int .i64 ((rd_T95 l0 x16_1).f0), .int .i64 ((rd_T95 l0 x16_1).f1), .slice A445_2 ((rd_T95 l0 x16_1).f2).length c445_2, .slice A445_3 ((rd_T95 l0 x16_1).f3).length c445_3] 95 (0, 0)) (by (with_reducible repeat (first | refine blk_drewN ?_ _ | refine blk_drew ?_ | refine blk_alloc ?_ _)); exact BK446.out) hb)
         have n2_ := Aside0.mk (below_step (by repeat (first | (with_reducible first | exact HB.out | apply below_alloc | apply pw_below_drewN | apply below_drew1 | refine below_set ?_ GE446.out) | exact HB.out)) hb)
         clear HO_5
         clear BK446
         clear HB
         have HO_5 := n0_
         have BK446 := n1_
         have HB := n2_
         clear n0_ n1_ n2_
         (try clear hb)
         (try clear hb2)
         (try clear hk)
         (try clear hi)
         refine hK.out _ _ ⟨(blk_cell BK446.out 0).trans rfl, (blk_cell BK446.out 1).trans rfl, (blk_cell BK446.out 2).trans rfl, (blk_cell BK446.out 3).trans rfl⟩ (fun hHeld => ?_)
         clear hK K
         refine norm_ (a' := ?_) ?_ ?_
         rotate_left
         ·show Act.put _ (some 52) _ = _
          simp only [Act.put, sA, sB, sC, i64_w, i32_w]
          rfl
         refine pure_ (i := 5) (N := some 53) (v := ?_) (a' := ?_) (bm 63 9) rfl rfl (any_of HT_.out (by kernel_rfl)) (fun _ _ _ h => h) (Or.inl ⟨by rfl, ?_⟩) ?_ ?_
         rotate_left
         ·intro w'
          go_simp
          with_reducible rfl
         rotate_left
         ·simp only [Act.put, sA, sB, sC, i64_w, i32_w]
          rfl
         refine one_ (i := 6) (N := some 54) (bm 127 9) rfl rfl (one_of HT_.out (by kernel_rfl)) (by decide) (fun K hK => ?_)
         refine value_ (w1 := ?_) (v := ?_) (by rfl) rfl ?_ ?_
         rotate_left 2
         ·go_simp
          constructor
          ·rfl
          ·rfl
         refine hK.out _ _ ⟨(blk_cell (blk_alloc BK446.out _) 0).trans rfl, (blk_cell (blk_alloc BK446.out _) 1).trans rfl, (blk_cell (blk_alloc BK446.out _) 2).trans rfl, (blk_cell (blk_alloc BK446.out _) 3).trans rfl⟩ (fun hHeld => ?_)
         clear hK K
         refine norm_ (a' := ?_) ?_ ?_
         rotate_left
         ·show Act.put _ (some 54) _ = _
          simp only [Act.put, sA, sB, sC, i64_w, i32_w]
          rfl
         refine one_ (i := 7) (N := some 55) (bm 255 9) rfl rfl (one_of HT_.out (by kernel_rfl)) (by decide) (fun K hK => ?_)
         refine Kd.R_append_step k121 (w0 := w) w.heap.size (by rfl) (.tmp 48) (.tmp 54) 59 121 (.agg #[(.int .i64 0), (.int .i64 0)]) 16 rfl Try.underlying59 info121 rfl (by decide) (by omega) (.slice Ao43 x5_1.length co43) x5_1 (⟨(rd_T95 l0 x16_1).f0, t458⟩ : S121) [.int .i64 ((rd_T95 l0 x16_1).f0), .int .i64 t458] (fun _ => True) (fun _ => False) rfl rfl ?aP (fun _ hk => hk.elim) ?aF ?aO ?aB ?aS ?aL ?_
         (case aP => exact k121_mkM _ _ _ (⟨(rd_T95 l0 x16_1).f0, t458⟩ : S121))
         (case aB => exact (by repeat (first | (with_reducible first | exact HB.out | apply below_alloc | apply pw_below_drewN | apply below_drew1 | refine below_set ?_ GE446.out) | exact HB.out)))
         (case aF => exact (fun _ _ => trivial))
         (case aO => exact (by (with_reducible repeat (first | apply Kd.R_alloc | apply Kd.R_drewN | apply Kd.R_drew)); exact HO_5.out))
         (case aS => exact (below_size (by repeat (first | (with_reducible first | exact HB.out | apply below_alloc | apply pw_below_drewN | apply below_drew1 | refine below_set ?_ GE446.out) | exact HB.out))))
         (case aL => have := LMc40.out; omega)
         intro v460 w47 ho hb hg hat
         rw [← Ny459.out] at ho
         have n0_ := Aside0.mk (blk_grown (g := gb446) (o := .cells #[.int .i64 ((rd_T95 l0 x16_1).f0), .int .i64 ((rd_T95 l0 x16_1).f1), .slice A445_2 ((rd_T95 l0 x16_1).f2).length c445_2, .slice A445_3 ((rd_T95 l0 x16_1).f3).length c445_3] 95 (0, 0)) (by (with_reducible repeat (first | refine blk_drewN ?_ _ | refine blk_drew ?_ | refine blk_alloc ?_ _)); exact BK446.out) hg (Kd.R_ne HO_5.out BK446.out (by decide)))
         have n1_ := Aside0.mk (hb)
         have n2_ := Aside0.mk (ho)
         clear BK446
         clear HB
         clear HO_5
         have BK446 := n0_
         have HB := n1_
         have HO461 := n2_
         clear n0_ n1_ n2_
         clear ho hb hg hat
         refine hK.out _ _ ⟨(blk_cell BK446.out 0).trans rfl, (blk_cell BK446.out 1).trans rfl, (blk_cell BK446.out 2).trans rfl, (blk_cell BK446.out 3).trans rfl⟩ (fun hHeld => ?_)
         clear hK K
         refine norm_ (a' := ?_) ?_ ?_
         rotate_left
         ·show Act.put _ (some 55) _ = _
          simp only [Act.put, sA, sB, sC, i64_w, i32_w]
          rfl
         refine pure_ (i := 8) (N := some 5) (v := ?_) (a' := ?_) (bm 511 9) rfl rfl (any_of HT_.out (by kernel_rfl)) (fun _ _ _ h => h) (Or.inl ⟨by rfl, ?_⟩) ?_ ?_
         rotate_left
         ·intro w'
          go_simp
          with_reducible rfl
         rotate_left
         ·simp only [Act.put, sA, sB, sC, i64_w, i32_w]
          rfl
         refine done_ (done_of HT_.out (by kernel_rfl)) ?_
         try go_wp2
         go_roundg k1
         case measure => have := HK1.out; omega
         case rel => exact ⟨(y459), (wrap64 (x16_1 + 1)), (by first | rfl | (simp; done) | (simp [*]; done)), H', ⟨by have := HK1.out; omega⟩, ⟨by (with_reducible repeat (first | apply Kd.R_alloc | apply Kd.R_drewN | apply Kd.R_drew)); exact HO461.out⟩, ⟨by repeat (first | (with_reducible first | exact HB.out | apply below_alloc | apply pw_below_drewN | apply below_drew1 | refine below_set ?_ GE446.out) | exact HB.out)⟩⟩
        ·rw [if_neg c40] at H
         exact absurd H (by simp)
      ·rw [if_neg c7] at H
       exact absurd H (by simp)
     ·rw [if_neg c6] at H
      exact absurd H (by simp)
    ·rw [if_neg c5] at H
     have c5b0 : decide (x16_1 < (l0.length : Int)) = false := decide_eq_false c5
     clear c5
     simp only [Option.some.injEq, Prod.mk.injEq] at H
     obtain ⟨rfl, rfl⟩ := H
     go_wp2
     go_ret2
     exact ⟨_, by first | rfl | (simp [errW_none, errW_some] <;> rfl) | (simp [*, errW_none, errW_some] <;> rfl), by (with_reducible repeat (first | apply Kd.R_alloc | apply Kd.R_drewN | apply Kd.R_drew)); exact HO_5.out, by repeat (first | (with_reducible first | exact HB.out | apply below_alloc | apply pw_below_drewN | apply below_drew1) | exact HB.out)⟩
 ·rw [if_neg c3] at H
  have c3b0 : (t444 == 0) = false := beq_eq_false_iff_ne.mpr c3
  have c3b1 : (t444 != 0) = true := bne_iff_ne.mpr c3
  simp only [Option.some.injEq, Prod.mk.injEq] at H
  obtain ⟨rfl, rfl⟩ := H
  go_enter Try.func32, Try.ntmps32
  go_wp2_with (first | ((with_reducible refine gate_callee (f := 67) rfl ?_); refine goesL_ (some 10) rfl rfl Try.func67 (by kernel_rfl) rfl #[.slice A0 l0.length c0] rfl (by (try simp only [List.map_toArray, List.map_cons, List.map_nil]); first | done | rfl | (simp only [List.length_drop, List.length_take]; rfl)) ?_; (with_reducible refine (delta_Check.calls k _ _ l0 t444 _ ?side1 ?side2 A2.out).mono ?_); (case side1 => repeat (first | exact HR0.out | (with_reducible refine Kd.C_alloc ?_ _) | (with_reducible refine Kd.C_drewN ?_ _) | (with_reducible refine Kd.C_drew ?_))); (case side2 => exact HC0.out); rintro e w48 ⟨rfl, hb⟩; refine ⟨_, rfl, ?_⟩; replace HB := Aside0.mk (below_step (by with_reducible repeat first | exact HB.out | apply below_alloc | apply pw_below_drewN | apply below_drew1) hb); (try clear hb); (try clear hb2); (try clear hk); (try clear hi)))
  go_ret2
  exact ⟨_, by first | rfl | (simp [errW_none, errW_some] <;> rfl) | (simp [*, errW_none, errW_some] <;> rfl), by first | exact Kd.R_nil _ _ _ _ _ | exact Kd.N_nil _ _ _ _ _ | exact Kd.V_nil _ _ _ _ _ | exact Kd.Q_nil _ _ _ _ _ | exact Kd.S_nil _ _ _ _ _, by repeat (first | (with_reducible first | exact HB.out | apply below_alloc | apply pw_below_drewN | apply below_drew1) | exact HB.out)⟩


end Go.Proofs.Ytlcodfjlbhjkbaa.PDelta
end

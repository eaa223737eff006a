/- Parts of the proof of Agree: nothing is claimed here by itself. -/
import Derived.Test.YtlcodfjlbhjkbaaKAgree4
set_option linter.unusedVariables false
set_option linter.unusedSimpArgs false
section
namespace Go.Proofs.Ytlcodfjlbhjkbaa.PDelta
open Go.RowKit Go.Proofs.YtlcodfjlbhjkbaaW.PrintWords Go.Proofs.YtlcodfjlbhjkbaaW.PrintLast Go.Proofs.YtlcodfjlbhjkbaaW.PrintMore
attribute [local go_sem] max2_int min2_int max_two min_two max_three min_three max_four min_four
attribute [local go_sem high] Go.Proofs.Ytlcodfjlbhjkbaa.Ord.leq_str Go.Proofs.Ytlcodfjlbhjkbaa.Ord.gtr_str Go.Proofs.Ytlcodfjlbhjkbaa.Ord.geq_str
def axis_place.l0 : Nat → Int → Int → Int → List (S121) → Int → Int → Option (Int)
 | 0, _, _, _, _, _, _ => none
 | k + 1, x1, x5, x6, x9, x10, x11 => if x11 < x10 then (if 0 ≤ x11 then (if x11 < (x9.length : Int) then (if ((rd_T121 x9 x11).f0) = 1 then (axis_place.l0 k x1 x5 (wrap64 (x6 + ((rd_T121 x9 x11).f1))) x9 x10 (wrap64 (x11 + 1))) else (if ((rd_T121 x9 x11).f0) = 0 then (if x1 < (wrap64 (x5 + ((rd_T121 x9 x11).f1))) then (some (wrap64 ((wrap64 (x6 + x1)) - x5))) else (axis_place.l0 k x1 (wrap64 (x5 + ((rd_T121 x9 x11).f1))) (wrap64 (x6 + ((rd_T121 x9 x11).f1))) x9 x10 (wrap64 (x11 + 1)))) else (if x1 < (wrap64 (x5 + ((rd_T121 x9 x11).f1))) then (some (-1)) else (axis_place.l0 k x1 (wrap64 (x5 + ((rd_T121 x9 x11).f1))) x6 x9 x10 (wrap64 (x11 + 1)))))) else (none)) else (none)) else (some (-1))
def axis_place.f (k : Nat) (l0 : List (S121)) (a1 : Int) : Option (Int) := axis_place.l0 k a1 0 0 l0 (l0.length : Int) 0
set_option maxHeartbeats 8000000 in
set_option maxRecDepth 100000 in
theorem axis_place.calls (k : Nat) (A0 : Option Addr) (c0 : Nat) (l0 : List (S121)) (a1 : Int) (r : Int) (w : World) (hr0 : Kd.C k121 w A0 l0.length l0) (hc0 : l0.length ≤ c0) (h : axis_place.f k l0 a1 = some r) :
  Calls Try.prog 71 #[.slice A0 l0.length c0, .int .i64 a1] w fun e w' => e = .returned (.int .i64 r) ∧ Below w.heap.size w w' := by
 have hu121 := Try.underlying121
 have HR0 := Aside0.mk hr0
 have HC0 := Aside0.mk hc0
 clear hr0 hc0
 have HB := Aside0.mk (Below.refl w.heap.size w)
 have H : (axis_place.l0 k a1 0 0 l0 (l0.length : Int) 0) = some r := h
 clear h
 have H' := Aside0.mk H
 clear H
 go_enter Try.func71, Try.ntmps71
 go_wp2
 go_loopg [5, 6, 11] k (fun kq v5 v6 v11 w' => ∃ (x5_1 : Int) (x6_1 : Int) (x11_1 : Int), v5 = .int .i64 x5_1 ∧ v6 = .int .i64 x6_1 ∧ v11 = .int .i64 x11_1 ∧ Aside0 (axis_place.l0 kq a1 x5_1 x6_1 l0 (l0.length : Int) x11_1 = some r) ∧ Aside0 (kq ≤ k) ∧ Aside0 (Below w.heap.size w w'))
 case atStart => exact ⟨(0), (0), (0), (by first | rfl | (simp; done) | (simp [*]; done)), (by first | rfl | (simp; done) | (simp [*]; done)), (by first | rfl | (simp; done) | (simp [*]; done)), H', ⟨Nat.le_refl _⟩, ⟨by repeat (first | (with_reducible first | exact HB.out | apply below_alloc | apply pw_below_drewN | apply below_drew1) | exact HB.out)⟩⟩
 case round =>
  clear H'
  try clear p2
  obtain ⟨x5_1, x6_1, x11_1, rfl, rfl, rfl, HA, HK1, HB⟩ := hrel
  cases gk with
  | zero => exact absurd HA.out (by simp [axis_place.l0])
  | succ k1 =>
   have H := HA.out
   clear HA
   simp only [axis_place.l0] at H
   by_cases c3 : x11_1 < (l0.length : Int)
   ·rw [if_pos c3] at H
    have c3b0 : decide (x11_1 < (l0.length : Int)) = true := decide_eq_true c3
    clear c3
    by_cases c4 : 0 ≤ x11_1
    ·rw [if_pos c4] at H
     have c4b0 : decide (0 ≤ x11_1) = true := decide_eq_true c4
     clear c4
     by_cases c5 : x11_1 < (l0.length : Int)
     ·rw [if_pos c5] at H
      have c5b0 : decide (x11_1 < (l0.length : Int)) = true := decide_eq_true c5
      clear c5
      by_cases c6 : ((rd_T121 l0 x11_1).f0) = 1
      ·rw [if_pos c6] at H
       have c6b0 : (((rd_T121 l0 x11_1).f0) == 1) = true := beq_iff_eq.mpr c6
       have c6b1 : (((rd_T121 l0 x11_1).f0) != 1) = false := bne_eq_false_iff_eq.mpr c6
       clear c6
       have H' := Aside0.mk H
       clear H
       have p615 : 0 ≤ (x11_1 : Int) := of_decide_eq_true (by assumption)
       have q615 : x11_1 < (l0.length : Int) := of_decide_eq_true (by assumption)
       obtain ⟨ad615, e615, hx615_0, hx615_1⟩ := at_T121 HR0.out x11_1 p615 q615
       cases e615
       replace hx615_0 := (HB.out.cell (World.block_lt_of_cell? w _ hx615_0)).trans hx615_0
       replace hx615_1 := (HB.out.cell (World.block_lt_of_cell? w _ hx615_1)).trans hx615_1
       replace p615 := eq_true p615
       replace q615 := eq_true q615
       go_wp2_with (first | ((with_reducible refine gate_dst (N := 8) rfl ?_); refine box_event ?hg (N := 8) ?hd (cs := #[.int .i64 0, .int .i64 0]) (t := 121) ?hr ?_; (case hd => rfl); (case hg => rfl); (case hr => first | (go_simp; done) | (go_simp; rfl)); intro gb616 hg w7 hbox hb; have n0_ := Aside0.mk (below_step (by with_reducible repeat first | exact HB.out | apply below_alloc | apply pw_below_drewN | apply below_drew1) hb); have n1_ := Aside0.mk (hbox); have n2_ := Aside0.mk ((by rw [hg]; exact (below_size (by with_reducible repeat first | exact HB.out | apply below_alloc | apply pw_below_drewN | apply below_drew1)) : w.heap.size ≤ gb616)); have n3_ := Aside0.mk ((by rw [hg]; exact (below_size (by with_reducible repeat first | exact HB.out | apply below_alloc | apply pw_below_drewN | apply below_drew1)) : w.heap.size ≤ gb616)); clear HB; have HB := n0_; have BK616 := n1_; have GW616 := n2_; have GE616 := n3_; clear n0_ n1_ n2_ n3_; clear hb hbox hg; have hcz8_0 : w7.cell? ⟨gb616, 0, none⟩ = some (.int .i64 0) := (blk_cell BK616.out 0).trans rfl; have hcz8_1 : w7.cell? ⟨gb616, 1, none⟩ = some (.int .i64 0) := (blk_cell BK616.out 1).trans rfl; have hfz8_0 := blk_frozen BK616.out 0; have hfz8_1 := blk_frozen BK616.out 1))
       go_roundg k1
       case measure => have := HK1.out; omega
       case rel => exact ⟨(x5_1), (wrap64 (x6_1 + ((rd_T121 l0 x11_1).f1))), (wrap64 (x11_1 + 1)), (by first | rfl | (simp; done) | (simp [*]; done)), (by first | rfl | (simp; done) | (simp [*]; done)), (by first | rfl | (simp; done) | (simp [*]; done)), H', ⟨by have := HK1.out; omega⟩, ⟨by repeat (first | (with_reducible first | exact HB.out | apply below_alloc | apply pw_below_drewN | apply below_drew1 | refine below_set ?_ GE616.out) | exact HB.out)⟩⟩
      ·rw [if_neg c6] at H
       have c6b0 : (((rd_T121 l0 x11_1).f0) == 1) = false := beq_eq_false_iff_ne.mpr c6
       have c6b1 : (((rd_T121 l0 x11_1).f0) != 1) = true := bne_iff_ne.mpr c6
       by_cases c9 : ((rd_T121 l0 x11_1).f0) = 0
       ·rw [if_pos c9] at H
        have c9b0 : (((rd_T121 l0 x11_1).f0) == 0) = true := beq_iff_eq.mpr c9
        have c9b1 : (((rd_T121 l0 x11_1).f0) != 0) = false := bne_eq_false_iff_eq.mpr c9
        clear c9
        by_cases c10 : a1 < (wrap64 (x5_1 + ((rd_T121 l0 x11_1).f1)))
        ·rw [if_pos c10] at H
         have c10b0 : decide (a1 < (wrap64 (x5_1 + ((rd_T121 l0 x11_1).f1)))) = true := decide_eq_true c10
         clear c10
         obtain rfl := Option.some.inj H
         have p615 : 0 ≤ (x11_1 : Int) := of_decide_eq_true (by assumption)
         have q615 : x11_1 < (l0.length : Int) := of_decide_eq_true (by assumption)
         obtain ⟨ad615, e615, hx615_0, hx615_1⟩ := at_T121 HR0.out x11_1 p615 q615
         cases e615
         replace hx615_0 := (HB.out.cell (World.block_lt_of_cell? w _ hx615_0)).trans hx615_0
         replace hx615_1 := (HB.out.cell (World.block_lt_of_cell? w _ hx615_1)).trans hx615_1
         replace p615 := eq_true p615
         replace q615 := eq_true q615
         go_wp2_with (first | ((with_reducible refine gate_dst (N := 8) rfl ?_); refine box_event ?hg (N := 8) ?hd (cs := #[.int .i64 0, .int .i64 0]) (t := 121) ?hr ?_; (case hd => rfl); (case hg => rfl); (case hr => first | (go_simp; done) | (go_simp; rfl)); intro gb616 hg w11 hbox hb; have n0_ := Aside0.mk (below_step (by with_reducible repeat first | exact HB.out | apply below_alloc | apply pw_below_drewN | apply below_drew1) hb); have n1_ := Aside0.mk (hbox); have n2_ := Aside0.mk ((by rw [hg]; exact (below_size (by with_reducible repeat first | exact HB.out | apply below_alloc | apply pw_below_drewN | apply below_drew1)) : w.heap.size ≤ gb616)); have n3_ := Aside0.mk ((by rw [hg]; exact (below_size (by with_reducible repeat first | exact HB.out | apply below_alloc | apply pw_below_drewN | apply below_drew1)) : w.heap.size ≤ gb616)); clear HB; have HB := n0_; have BK616 := n1_; have GW616 := n2_; have GE616 := n3_; clear n0_ n1_ n2_ n3_; clear hb hbox hg; have hcz12_0 : w11.cell? ⟨gb616, 0, none⟩ = some (.int .i64 0) := (blk_cell BK616.out 0).trans rfl; have hcz12_1 : w11.cell? ⟨gb616, 1, none⟩ = some (.int .i64 0) := (blk_cell BK616.out 1).trans rfl; have hfz12_0 := blk_frozen BK616.out 0; have hfz12_1 := blk_frozen BK616.out 1))
         go_ret
         exact ⟨by first | rfl | (simp [errW_none, errW_some] <;> rfl) | (simp [*, errW_none, errW_some] <;> rfl), by repeat (first | (with_reducible first | exact HB.out | apply below_alloc | apply pw_below_drewN | apply below_drew1 | refine below_set ?_ GE616.out) | exact HB.out)⟩
        ·rw [if_neg c10] at H
         have c10b0 : decide (a1 < (wrap64 (x5_1 + ((rd_T121 l0 x11_1).f1)))) = false := decide_eq_false c10
         clear c10
         have H' := Aside0.mk H
         clear H
         have p615 : 0 ≤ (x11_1 : Int) := of_decide_eq_true (by assumption)
         have q615 : x11_1 < (l0.length : Int) := of_decide_eq_true (by assumption)
         obtain ⟨ad615, e615, hx615_0, hx615_1⟩ := at_T121 HR0.out x11_1 p615 q615
         cases e615
         replace hx615_0 := (HB.out.cell (World.block_lt_of_cell? w _ hx615_0)).trans hx615_0
         replace hx615_1 := (HB.out.cell (World.block_lt_of_cell? w _ hx615_1)).trans hx615_1
         replace p615 := eq_true p615
         replace q615 := eq_true q615
         go_wp2_with (first | ((with_reducible refine gate_dst (N := 8) rfl ?_); refine box_event ?hg (N := 8) ?hd (cs := #[.int .i64 0, .int .i64 0]) (t := 121) ?hr ?_; (case hd => rfl); (case hg => rfl); (case hr => first | (go_simp; done) | (go_simp; rfl)); intro gb616 hg w13 hbox hb; have n0_ := Aside0.mk (below_step (by with_reducible repeat first | exact HB.out | apply below_alloc | apply pw_below_drewN | apply below_drew1) hb); have n1_ := Aside0.mk (hbox); have n2_ := Aside0.mk ((by rw [hg]; exact (below_size (by with_reducible repeat first | exact HB.out | apply below_alloc | apply pw_below_drewN | apply below_drew1)) : w.heap.size ≤ gb616)); have n3_ := Aside0.mk ((by rw [hg]; exact (below_size (by with_reducible repeat first | exact HB.out | apply below_alloc | apply pw_below_drewN | apply below_drew1)) : w.heap.size ≤ gb616)); clear HB; have HB := n0_; have BK616 := n1_; have GW616 := n2_; have GE616 := n3_; clear n0_ n1_ n2_ n3_; clear hb hbox hg; have hcz14_0 : w13.cell? ⟨gb616, 0, none⟩ = some (.int .i64 0) := (blk_cell BK616.out 0).trans rfl; have hcz14_1 : w13.cell? ⟨gb616, 1, none⟩ = some (.int .i64 0) := (blk_cell BK616.out 1).trans rfl; have hfz14_0 := blk_frozen BK616.out 0; have hfz14_1 := blk_frozen BK616.out 1))
         go_roundg k1
         case measure => have := HK1.out; omega
         case rel => exact ⟨(wrap64 (x5_1 + ((rd_T121 l0 x11_1).f1))), (wrap64 (x6_1 + ((rd_T121 l0 x11_1).f1))), (wrap64 (x11_1 + 1)), (by first | rfl | (simp; done) | (simp [*]; done)), (by first | rfl | (simp; done) | (simp [*]; done)), (by first | rfl | (simp; done) | (simp [*]; done)), H', ⟨by have := HK1.out; omega⟩, ⟨by repeat (first | (with_reducible first | exact HB.out | apply below_alloc | apply pw_below_drewN | apply below_drew1 | refine below_set ?_ GE616.out) | exact HB.out)⟩⟩
       ·rw [if_neg c9] at H
        have c9b0 : (((rd_T121 l0 x11_1).f0) == 0) = false := beq_eq_false_iff_ne.mpr c9
        have c9b1 : (((rd_T121 l0 x11_1).f0) != 0) = true := bne_iff_ne.mpr c9
        by_cases c15 : a1 < (wrap64 (x5_1 + ((rd_T121 l0 x11_1).f1)))
        ·rw [if_pos c15] at H
         have c15b0 : decide (a1 < (wrap64 (x5_1 + ((rd_T121 l0 x11_1).f1)))) = true := decide_eq_true c15
         clear c15
         obtain rfl := Option.some.inj H
         have p615 : 0 ≤ (x11_1 : Int) := of_decide_eq_true (by assumption)
         have q615 : x11_1 < (l0.length : Int) := of_decide_eq_true (by assumption)
         obtain ⟨ad615, e615, hx615_0, hx615_1⟩ := at_T121 HR0.out x11_1 p615 q615
         cases e615
         replace hx615_0 := (HB.out.cell (World.block_lt_of_cell? w _ hx615_0)).trans hx615_0
         replace hx615_1 := (HB.out.cell (World.block_lt_of_cell? w _ hx615_1)).trans hx615_1
         replace p615 := eq_true p615
         replace q615 := eq_true q615
         go_wp2_with (first | ((with_reducible refine gate_dst (N := 8) rfl ?_); refine box_event ?hg (N := 8) ?hd (cs := #[.int .i64 0, .int .i64 0]) (t := 121) ?hr ?_; (case hd => rfl); (case hg => rfl); (case hr => first | (go_simp; done) | (go_simp; rfl)); intro gb616 hg w16 hbox hb; have n0_ := Aside0.mk (below_step (by with_reducible repeat first | exact HB.out | apply below_alloc | apply pw_below_drewN | apply below_drew1) hb); have n1_ := Aside0.mk (hbox); have n2_ := Aside0.mk ((by rw [hg]; exact (below_size (by with_reducible repeat first | exact HB.out | apply below_alloc | apply pw_below_drewN | apply below_drew1)) : w.heap.size ≤ gb616)); have n3_ := Aside0.mk ((by rw [hg]; exact (below_size (by with_reducible repeat first | exact HB.out | apply below_alloc | apply pw_below_drewN | apply below_drew1)) : w.heap.size ≤ gb616)); clear HB; have HB := n0_; have BK616 := n1_; have GW616 := n2_; have GE616 := n3_; clear n0_ n1_ n2_ n3_; clear hb hbox hg; have hcz17_0 : w16.cell? ⟨gb616, 0, none⟩ = some (.int .i64 0) := (blk_cell BK616.out 0).trans rfl; have hcz17_1 : w16.cell? ⟨gb616, 1, none⟩ = some (.int .i64 0) := (blk_cell BK616.out 1).trans rfl; have hfz17_0 := blk_frozen BK616.out 0; have hfz17_1 := blk_frozen BK616.out 1))
         go_ret
         exact ⟨by first | rfl | (simp [errW_none, errW_some] <;> rfl) | (simp [*, errW_none, errW_some] <;> rfl), by repeat (first | (with_reducible first | exact HB.out | apply below_alloc | apply pw_below_drewN | apply below_drew1 | refine below_set ?_ GE616.out) | exact HB.out)⟩
        ·rw [if_neg c15] at H
         have c15b0 : decide (a1 < (wrap64 (x5_1 + ((rd_T121 l0 x11_1).f1)))) = false := decide_eq_false c15
         clear c15
         have H' := Aside0.mk H
         clear H
         have p615 : 0 ≤ (x11_1 : Int) := of_decide_eq_true (by assumption)
         have q615 : x11_1 < (l0.length : Int) := of_decide_eq_true (by assumption)
         obtain ⟨ad615, e615, hx615_0, hx615_1⟩ := at_T121 HR0.out x11_1 p615 q615
         cases e615
         replace hx615_0 := (HB.out.cell (World.block_lt_of_cell? w _ hx615_0)).trans hx615_0
         replace hx615_1 := (HB.out.cell (World.block_lt_of_cell? w _ hx615_1)).trans hx615_1
         replace p615 := eq_true p615
         replace q615 := eq_true q615
         go_wp2_with (first | ((with_reducible refine gate_dst (N := 8) rfl ?_); refine box_event ?hg (N := 8) ?hd (cs := #[.int .i64 0, .int .i64 0]) (t := 121) ?hr ?_; (case hd => rfl); (case hg => rfl); (case hr => first | (go_simp; done) | (go_simp; rfl)); intro gb616 hg w18 hbox hb; have n0_ := Aside0.mk (below_step (by with_reducible repeat first | exact HB.out | apply below_alloc | apply pw_below_drewN | apply below_drew1) hb); have n1_ := Aside0.mk (hbox); have n2_ := Aside0.mk ((by rw [hg]; exact (below_size (by with_reducible repeat first | exact HB.out | apply below_alloc | apply pw_below_drewN | apply below_drew1)) : w.heap.size ≤ gb616)); have n3_ := Aside0.mk ((by rw [hg]; exact (below_size (by with_reducible repeat first | exact HB.out | apply below_alloc | apply pw_below_drewN | apply below_drew1)) : w.heap.size ≤ gb616)); clear HB; have HB := n0_; have BK616 := n1_; have GW616 := n2_; have GE616 := n3_; clear n0_ n1_ n2_ n3_; clear hb hbox hg; have hcz19_0 : w18.cell? ⟨gb616, 0, none⟩ = some (.int .i64 0) := (blk_cell BK616.out 0).trans rfl; have hcz19_1 : w18.cell? ⟨gb616, 1, none⟩ = some (.int .i64 0) := (blk_cell BK616.out 1).trans rfl; have hfz19_0 := blk_frozen BK616.out 0; have hfz19_1 := blk_frozen BK616.out 1))
         go_roundg k1
         case measure => have := HK1.out; omega
         case rel => exact ⟨(wrap64 (x5_1 + ((rd_T121 l0 x11_1).f1))), (x6_1), (wrap64 (x11_1 + 1)), (by first | rfl | (simp; done) | (simp [*]; done)), (by first | rfl | (simp; done) | (simp [*]; done)), (by first | rfl | (simp; done) | (simp [*]; done)), H', ⟨by have := HK1.out; omega⟩, ⟨by repeat (first | (with_reducible first | exact HB.out | apply below_alloc | apply pw_below_drewN | apply below_drew1 | refine below_set ?_ GE616.out) | exact HB.out)⟩⟩
     ·rw [if_neg c5] at H
      exact absurd H (by simp)
    ·rw [if_neg c4] at H
     exact absurd H (by simp)
   ·rw [if_neg c3] at H
    have c3b0 : decide (x11_1 < (l0.length : Int)) = false := decide_eq_false c3
    clear c3
    obtain rfl := Option.some.inj H
    go_wp2
    go_ret
    exact ⟨by first | rfl | (simp [errW_none, errW_some] <;> rfl) | (simp [*, errW_none, errW_some] <;> rfl), by repeat (first | (with_reducible first | exact HB.out | apply below_alloc | apply pw_below_drewN | apply below_drew1) | exact HB.out)⟩
def axis_Apply.l0 : Nat → List (S121) → Int → List Int → List Int → Int → Int → Option (List Int × Int)
 | 0, _, _, _, _, _, _ => none
 | k + 1, x0, x7, x9, x22, x23, x24 => if x24 < x23 then (if 0 ≤ x24 then (if x24 < (x22.length : Int) then (if (rd x22 x24) < 0 then (some (([] : List Int), 2)) else (if (rd x22 x24) ≥ x7 then (some (([] : List Int), 2)) else ((axis_place.f k x0 (rd x22 x24)).bind fun t621 => (if x9.length < 17592186044416 then (axis_Apply.l0 k x0 x7 (x9 ++ [t621]) x22 x23 (wrap64 (x24 + 1))) else (none))))) else (none)) else (none)) else (some (x9, 0))
def axis_Apply.f (k : Nat) (l0 : List (S121)) (l1 : List Int) : Option (List Int × Int) := (axis_Check.f k l0).bind fun t617 => (if t617 = 0 then ((axis_lengths.f k l0).bind fun bt618 => (axis_Apply.l0 k l0 bt618.1 ([] : List Int) l1 (l1.length : Int) 0)) else (some (([] : List Int), t617)))
set_option maxHeartbeats 8000000 in
set_option maxRecDepth 100000 in
theorem axis_Apply.calls (k : Nat) (A0 : Option Addr) (c0 : Nat) (l0 : List (S121)) (A1 : Option Addr) (c1 : Nat) (l1 : List Int) (r1 : List Int) (r2 : Int) (w : World) (hr0 : Kd.C k121 w A0 l0.length l0) (hc0 : l0.length ≤ c0) (hr1 : Kd.C (Kd.int .i64) w A1 l1.length l1) (hc1 : l1.length ≤ c1) (h : axis_Apply.f k l0 l1 = some (r1, r2)) :
  Calls Try.prog 33 #[.slice A0 l0.length c0, .slice A1 l1.length c1] w fun e w' => ∃ v0_ : Value, e = .returned (.tuple #[v0_, .int .i64 r2]) ∧ Kd.R (Kd.int .i64) 3 w' w.heap.size (fun _ => True) v0_ r1 ∧ Below w.heap.size w w' := by
 have HR0 := Aside0.mk hr0
 have HC0 := Aside0.mk hc0
 clear hr0 hc0
 have HR1 := Aside0.mk hr1
 have HC1 := Aside0.mk hc1
 clear hr1 hc1
 have HB := Aside0.mk (Below.refl w.heap.size w)
 have H : ((axis_Check.f k l0).bind fun t617 => (if t617 = 0 then ((axis_lengths.f k l0).bind fun bt618 => (axis_Apply.l0 k l0 bt618.1 ([] : List Int) l1 (l1.length : Int) 0)) else (some (([] : List Int), t617)))) = some (r1, r2) := h
 clear h
 replace H := Option.bind_eq_some_iff.mp H
 obtain ⟨t617, A30, H⟩ := H
 replace H : (if t617 = 0 then ((axis_lengths.f k l0).bind fun bt618 => (axis_Apply.l0 k l0 bt618.1 ([] : List Int) l1 (l1.length : Int) 0)) else (some (([] : List Int), t617))) = some (r1, r2) := H
 have A3 := Aside0.mk A30
 clear A30
 by_cases c4 : t617 = 0
 ·rw [if_pos c4] at H
  have c4b0 : (t617 == 0) = true := beq_iff_eq.mpr c4
  have c4b1 : (t617 != 0) = false := bne_eq_false_iff_eq.mpr c4
  clear c4
  replace H := Option.bind_eq_some_iff.mp H
  obtain ⟨⟨t618, t619⟩, A50, H⟩ := H
  replace H : (axis_Apply.l0 k l0 t618 ([] : List Int) l1 (l1.length : Int) 0) = some (r1, r2) := H
  have A5 := Aside0.mk A50
  clear A50
  have H' := Aside0.mk H
  clear H
  go_enter Try.func33, Try.ntmps33
  go_wp2_with (first | ((with_reducible refine gate_callee (f := 69) rfl ?_); refine goesL_ (some 13) rfl rfl Try.func69 (by kernel_rfl) rfl #[.slice A0 l0.length c0] rfl (by (try simp only [List.map_toArray, List.map_cons, List.map_nil]); first | done | rfl | (simp only [List.length_drop, List.length_take]; rfl)) ?_; (with_reducible refine (axis_Check.calls k _ _ l0 t617 _ ?side1 ?side2 A3.out).mono ?_); (case side1 => repeat (first | exact HR0.out | (with_reducible refine Kd.C_alloc ?_ _) | (with_reducible refine Kd.C_drewN ?_ _) | (with_reducible refine Kd.C_drew ?_))); (case side2 => exact HC0.out); rintro e w6 ⟨rfl, hb⟩; refine ⟨_, rfl, ?_⟩; replace HB := Aside0.mk (below_step (by with_reducible repeat first | exact HB.out | apply below_alloc | apply pw_below_drewN | apply below_drew1) hb); (try clear hb); (try clear hb2); (try clear hk); (try clear hi)) | ((with_reducible refine gate_callee (f := 70) rfl ?_); refine goesL_ (some 19) rfl rfl Try.func70 (by kernel_rfl) rfl #[.slice A0 l0.length c0] rfl (by (try simp only [List.map_toArray, List.map_cons, List.map_nil]); first | done | rfl | (simp only [List.length_drop, List.length_take]; rfl)) ?_; (with_reducible refine (axis_lengths.calls k _ _ l0 t618 t619 _ ?side1 ?side2 A5.out).mono ?_); (case side1 => repeat (first | exact (Kd.C_below HR0.out HB.out) | (with_reducible refine Kd.C_alloc ?_ _) | (with_reducible refine Kd.C_drewN ?_ _) | (with_reducible refine Kd.C_drew ?_))); (case side2 => exact HC0.out); rintro e w7 ⟨rfl, hb⟩; refine ⟨_, rfl, ?_⟩; replace HB := Aside0.mk (below_step (by with_reducible repeat first | exact HB.out | apply below_alloc | apply pw_below_drewN | apply below_drew1) hb); (try clear hb); (try clear hb2); (try clear hk); (try clear hi)))
  go_loopg [9, 24] k (fun kq v9 v24 w' => ∃ (x9_1 : List Int) (x24_1 : Int), v24 = .int .i64 x24_1 ∧ Aside0 (axis_Apply.l0 kq l0 t618 x9_1 l1 (l1.length : Int) x24_1 = some (r1, r2)) ∧ Aside0 (kq ≤ k) ∧ Aside0 (Kd.R (Kd.int .i64) 3 w' w.heap.size (fun _ => True) v9 x9_1) ∧ Aside0 (Below w.heap.size w w'))
  case atStart => exact ⟨(([] : List Int)), (0), (by first | rfl | (simp; done) | (simp [*]; done)), H', ⟨Nat.le_refl _⟩, ⟨by first | exact Kd.R_nil _ _ _ _ _ | exact Kd.N_nil _ _ _ _ _ | exact Kd.V_nil _ _ _ _ _ | exact Kd.Q_nil _ _ _ _ _ | exact Kd.S_nil _ _ _ _ _⟩, ⟨by repeat (first | (with_reducible first | exact HB.out | apply below_alloc | apply pw_below_drewN | apply below_drew1) | exact HB.out)⟩⟩
  case round =>
   clear H'
   try clear c1
   try clear p2
   try clear c3
   try clear c4
   try clear c4b0
   try clear c4b1
   try clear c6
   try clear c7
   obtain ⟨x9_1, x24_1, rfl, HA, HK1, HO_9, HB⟩ := hrel
   cases gk with
   | zero => exact absurd HA.out (by simp [axis_Apply.l0])
   | succ k1 =>
    have H := HA.out
    clear HA
    simp only [axis_Apply.l0] at H
    by_cases c8 : x24_1 < (l1.length : Int)
    ·rw [if_pos c8] at H
     have c8b0 : decide (x24_1 < (l1.length : Int)) = true := decide_eq_true c8
     clear c8
     by_cases c9 : 0 ≤ x24_1
     ·rw [if_pos c9] at H
      have c9b0 : decide (0 ≤ x24_1) = true := decide_eq_true c9
      clear c9
      by_cases c10 : x24_1 < (l1.length : Int)
      ·rw [if_pos c10] at H
       have c10b0 : decide (x24_1 < (l1.length : Int)) = true := decide_eq_true c10
       clear c10
       by_cases c11 : (rd l1 x24_1) < 0
       ·rw [if_pos c11] at H
        have c11b0 : decide ((rd l1 x24_1) < 0) = true := decide_eq_true c11
        clear c11
        simp only [Option.some.injEq, Prod.mk.injEq] at H
        obtain ⟨rfl, rfl⟩ := H
        have p620 : 0 ≤ (x24_1 : Int) := of_decide_eq_true (by assumption)
        have q620 : x24_1 < (l1.length : Int) := of_decide_eq_true (by assumption)
        obtain ⟨ad620, e620, hx620_0⟩ := Kd.at_int HR1.out x24_1 p620 q620
        cases e620
        replace hx620_0 := (HB.out.cell (World.block_lt_of_cell? w _ hx620_0)).trans hx620_0
        replace p620 := eq_true p620
        replace q620 := eq_true q620
        go_wp2
        go_ret2
        exact ⟨_, by first | rfl | (simp [errW_none, errW_some] <;> rfl) | (simp [*, errW_none, errW_some] <;> rfl), by first | exact Kd.R_nil _ _ _ _ _ | exact Kd.N_nil _ _ _ _ _ | exact Kd.V_nil _ _ _ _ _ | exact Kd.Q_nil _ _ _ _ _ | exact Kd.S_nil _ _ _ _ _, by repeat (first | (with_reducible first | exact HB.out | apply below_alloc | apply pw_below_drewN | apply below_drew1) | exact HB.out)⟩
       ·rw [if_neg c11] at H
        have c11b0 : decide ((rd l1 x24_1) < 0) = false := decide_eq_false c11
        clear c11
        by_cases c12 : (rd l1 x24_1) ≥ t618
        ·rw [if_pos c12] at H
         have c12b0 : decide (t618 ≤ (rd l1 x24_1)) = true := decide_eq_true c12
         clear c12
         simp only [Option.some.injEq, Prod.mk.injEq] at H
         obtain ⟨rfl, rfl⟩ := H
         have p620 : 0 ≤ (x24_1 : Int) := of_decide_eq_true (by assumption)
         have q620 : x24_1 < (l1.length : Int) := of_decide_eq_true (by assumption)
         obtain ⟨ad620, e620, hx620_0⟩ := Kd.at_int HR1.out x24_1 p620 q620
         cases e620
         replace hx620_0 := (HB.out.cell (World.block_lt_of_cell? w _ hx620_0)).trans hx620_0
         replace p620 := eq_true p620
         replace q620 := eq_true q620
         go_wp2
         go_ret2
         exact ⟨_, by first | rfl | (simp [errW_none, errW_some] <;> rfl) | (simp [*, errW_none, errW_some] <;> rfl), by first | exact Kd.R_nil _ _ _ _ _ | exact Kd.N_nil _ _ _ _ _ | exact Kd.V_nil _ _ _ _ _ | exact Kd.Q_nil _ _ _ _ _ | exact Kd.S_nil _ _ _ _ _, by repeat (first | (with_reducible first | exact HB.out | apply below_alloc | apply pw_below_drewN | apply below_drew1) | exact HB.out)⟩
        ·rw [if_neg c12] at H
         have c12b0 : decide (t618 ≤ (rd l1 x24_1)) = false := decide_eq_false c12
         clear c12
         replace H := Option.bind_eq_some_iff.mp H
         obtain ⟨t621, A130, H⟩ := H
         replace H : (if x9_1.length < 17592186044416 then (axis_Apply.l0 k1 l0 t618 (x9_1 ++ [t621]) l1 (l1.length : Int) (wrap64 (x24_1 + 1))) else (none)) = some (r1, r2) := H
         have A13 := Aside0.mk A130
         clear A130
         by_cases c14 : x9_1.length < 17592186044416
         ·rw [if_pos c14] at H
          have LMc14 := Aside0.mk c14
          clear c14
          obtain ⟨y622, hy622⟩ : ∃ y_ : List Int, y_ = (x9_1 ++ [t621]) := ⟨_, rfl⟩
          replace H : (axis_Apply.l0 k1 l0 t618 y622 l1 (l1.length : Int) (wrap64 (x24_1 + 1))) = some (r1, r2) := by first | (rw [hy622]; with_reducible exact H) | (have H2_ := (Option.bind_some _ _).symm.trans H; rw [hy622]; with_reducible exact H2_) | (have H2_ := (Option.bind_some _ _).symm.trans H; with_reducible exact H2_) | with_reducible exact H | (rw [hy622]; exact H) | exact H
          have Ny622 := Aside0.mk hy622
          clear hy622
          have H' := Aside0.mk H
          clear H
          have p620 : 0 ≤ (x24_1 : Int) := of_decide_eq_true (by assumption)
          have q620 : x24_1 < (l1.length : Int) := of_decide_eq_true (by assumption)
          obtain ⟨ad620, e620, hx620_0⟩ := Kd.at_int HR1.out x24_1 p620 q620
          cases e620
          replace hx620_0 := (HB.out.cell (World.block_lt_of_cell? w _ hx620_0)).trans hx620_0
          replace p620 := eq_true p620
          replace q620 := eq_true q620
          go_wp2_with (first | ((with_reducible refine gate_callee (f := 71) rfl ?_); refine goesL_ (some 38) rfl rfl Try.func71 (by kernel_rfl) rfl #[.slice A0 l0.length c0, .int .i64 (rd l1 x24_1)] rfl (by (try simp only [List.map_toArray, List.map_cons, List.map_nil]); first | done | rfl | (simp only [List.length_drop, List.length_take]; rfl)) ?_; (with_reducible refine (axis_place.calls k1 _ _ l0 (rd l1 x24_1) t621 _ ?side1 ?side2 A13.out).mono ?_); (case side1 => repeat (first | exact (Kd.C_below HR0.out HB.out) | (with_reducible refine Kd.C_alloc ?_ _) | (with_reducible refine Kd.C_drewN ?_ _) | (with_reducible refine Kd.C_drew ?_))); (case side2 => exact HC0.out); rintro e w15 ⟨rfl, hb⟩; refine ⟨_, rfl, ?_⟩; have n0_ := Aside0.mk (Kd.R_below (by (with_reducible repeat (first | apply Kd.R_alloc | apply Kd.R_drewN | apply Kd.R_drew)); exact HO_9.out) hb); have n1_ := Aside0.mk (below_step (by with_reducible repeat first | exact HB.out | apply below_alloc | apply pw_below_drewN | apply below_drew1) hb); clear HO_9; clear HB; have HO_9 := n0_; have HB := n1_; clear n0_ n1_; (try clear hb); (try clear hb2); (try clear hk); (try clear hi)) | ((with_reducible refine gate_builtin (b := .append) (xs := #[.tmp 35, .tmp 39]) rfl ?_); at_builtin; refine Kd.R_append (Kd.int .i64) (w0 := w) w.heap.size rfl (.tmp 35) (.tmp 39) 35 3 (.int .i64 0) 8 rfl Try.underlying35 info3 rfl (by decide) (by omega) u9 x9_1 t621 [.int .i64 t621] (fun _ => True) (fun _ => False) rfl rfl ?aP (fun _ hk => hk.elim) ?aF ?aO ?aB ?aS ?aL ?_; (case aP => exact rfl); (case aB => exact (by with_reducible repeat first | exact HB.out | apply below_alloc | apply pw_below_drewN | apply below_drew1)); (case aF => exact (fun _ _ => trivial)); (case aO => exact (by (with_reducible repeat (first | apply Kd.R_alloc | apply Kd.R_drewN | apply Kd.R_drew)); exact HO_9.out)); (case aS => exact (below_size (by with_reducible repeat first | exact HB.out | apply below_alloc | apply pw_below_drewN | apply below_drew1))); (case aL => have := LMc14.out; omega); intro v623 w16 ho hb hg hat; rw [← Ny622.out] at ho; have n0_ := Aside0.mk (hb); have n1_ := Aside0.mk (ho); clear HB; clear HO_9; have HB := n0_; have HO624 := n1_; clear n0_ n1_; clear ho hb hg hat))
          go_roundg k1
          case measure => have := HK1.out; omega
          case rel => exact ⟨(y622), (wrap64 (x24_1 + 1)), (by first | rfl | (simp; done) | (simp [*]; done)), H', ⟨by have := HK1.out; omega⟩, ⟨by (with_reducible repeat (first | apply Kd.R_alloc | apply Kd.R_drewN | apply Kd.R_drew)); exact HO624.out⟩, ⟨by repeat (first | (with_reducible first | exact HB.out | apply below_alloc | apply pw_below_drewN | apply below_drew1) | exact HB.out)⟩⟩
         ·rw [if_neg c14] at H
          exact absurd H (by simp)
      ·rw [if_neg c10] at H
       exact absurd H (by simp)
     ·rw [if_neg c9] at H
      exact absurd H (by simp)
    ·rw [if_neg c8] at H
     have c8b0 : decide (x24_1 < (l1.length : Int)) = false := decide_eq_false c8
     clear c8
     simp only [Option.some.injEq, Prod.mk.injEq] at H
     obtain ⟨rfl, rfl⟩ := H
     go_wp2
     go_ret2
     exact ⟨_, by first | rfl | (simp [errW_none, errW_some] <;> rfl) | (simp [*, errW_none, errW_some] <;> rfl), by (with_reducible repeat (first | apply Kd.R_alloc | apply Kd.R_drewN | apply Kd.R_drew)); exact HO_9.out, by repeat (first | (with_reducible first | exact HB.out | apply below_alloc | apply pw_below_drewN | apply below_drew1) | exact HB.out)⟩
 ·rw [if_neg c4] at H
  have c4b0 : (t617 == 0) = false := beq_eq_false_iff_ne.mpr c4
  have c4b1 : (t617 != 0) = true := bne_iff_ne.mpr c4
  simp only [Option.some.injEq, Prod.mk.injEq] at H
  obtain ⟨rfl, rfl⟩ := H
  go_enter Try.func33, Try.ntmps33
  go_wp2_with (first | ((with_reducible refine gate_callee (f := 69) rfl ?_); refine goesL_ (some 13) rfl rfl Try.func69 (by kernel_rfl) rfl #[.slice A0 l0.length c0] rfl (by (try simp only [List.map_toArray, List.map_cons, List.map_nil]); first | done | rfl | (simp only [List.length_drop, List.length_take]; rfl)) ?_; (with_reducible refine (axis_Check.calls k _ _ l0 t617 _ ?side1 ?side2 A3.out).mono ?_); (case side1 => repeat (first | exact HR0.out | (with_reducible refine Kd.C_alloc ?_ _) | (with_reducible refine Kd.C_drewN ?_ _) | (with_reducible refine Kd.C_drew ?_))); (case side2 => exact HC0.out); rintro e w17 ⟨rfl, hb⟩; refine ⟨_, rfl, ?_⟩; replace HB := Aside0.mk (below_step (by with_reducible repeat first | exact HB.out | apply below_alloc | apply pw_below_drewN | apply below_drew1) hb); (try clear hb); (try clear hb2); (try clear hk); (try clear hi)))
  go_ret2
  exact ⟨_, by first | rfl | (simp [errW_none, errW_some] <;> rfl) | (simp [*, errW_none, errW_some] <;> rfl), by first | exact Kd.R_nil _ _ _ _ _ | exact Kd.N_nil _ _ _ _ _ | exact Kd.V_nil _ _ _ _ _ | exact Kd.Q_nil _ _ _ _ _ | exact Kd.S_nil _ _ _ _ _, by repeat (first | (with_reducible first | exact HB.out | apply below_alloc | apply pw_below_drewN | apply below_drew1) | exact HB.out)⟩
noncomputable section
mutual
def chancerykeep1_DeltaAxisAgrees.j0 : Nat → Int → List Int → Bool → Option (Bool)
 | 0, _, _, _ => none
 | k + 1, x0, x1, x22 => if x22 = true then (some false) else ((chanceryref1_Within.f x0 1 26).bind fun t359 => (chancerykeep1_DeltaAxisAgrees.l0 k t359 x1 ([] : List (S26)) t359 0))
def chancerykeep1_DeltaAxisAgrees.l0 : Nat → Int → List Int → List (S26) → Int → Int → Option (Bool)
 | 0, _, _, _, _, _ => none
 | k + 1, x0, x1, x5, x25, x26 => if x26 < x25 then (if x5.length < 3518437208883 then (chancerykeep1_DeltaAxisAgrees.l0 k x0 x1 (x5 ++ [(⟨wrap64 (97 + x26), 0, ([] : List (S91))⟩ : S26)]) x25 (wrap64 (x26 + 1))) else (none)) else ((chancerykeep1_change.f x0 x1 (⟨#[120]⟩ : ByteArray)).bind fun t363 => ((delta_Apply.f k x5 t363).bind fun bt366 => ((delta_Axis.f k t363).bind fun bt370 => (if bt366.2 = 0 then (chancerykeep1_DeltaAxisAgrees.j2 k x0 x5 bt366.1 bt370.1 (bt370.2 != 0)) else (chancerykeep1_DeltaAxisAgrees.j2 k x0 x5 bt366.1 bt370.1 true)))))
def chancerykeep1_DeltaAxisAgrees.j2 : Nat → Int → List (S26) → List (S26) → List (S121) → Bool → Option (Bool)
 | 0, _, _, _, _, _ => none
 | k + 1, x0, x5, x8, x10, x55 => if x55 = true then (some false) else (chancerykeep1_DeltaAxisAgrees.l1 k x5 x8 x10 x0 0)
def chancerykeep1_DeltaAxisAgrees.l1 : Nat → List (S26) → List (S26) → List (S121) → Int → Int → Option (Bool)
 | 0, _, _, _, _, _ => none
 | k + 1, x5, x8, x10, x56, x57 => if x57 < x56 then ((axis_Apply.f k x10 (([x57] : List Int))).bind fun bt377 => (if bt377.2 = 0 then (if (bt377.1.length : Int) = 1 then (if 0 < (bt377.1.length : Int) then (chancerykeep1_DeltaAxisAgrees.j4 k x5 x8 x10 x57 bt377.1 x56 x57 (decide ((rd bt377.1 0) ≥ (x8.length : Int)))) else (none)) else (chancerykeep1_DeltaAxisAgrees.j4 k x5 x8 x10 x57 bt377.1 x56 x57 true)) else (chancerykeep1_DeltaAxisAgrees.j4 k x5 x8 x10 x57 bt377.1 x56 x57 true))) else (some true)
def chancerykeep1_DeltaAxisAgrees.j4 : Nat → List (S26) → List (S26) → List (S121) → Int → List Int → Int → Int → Bool → Option (Bool)
 | 0, _, _, _, _, _, _, _, _ => none
 | k + 1, x5, x8, x10, x12, x13, x56, x57, x81 => if x81 = true then (some false) else (chancerykeep1_DeltaAxisAgrees.l2 k x5 x8 x10 x12 x13 false x56 x57 (x8.length : Int) 0)
def chancerykeep1_DeltaAxisAgrees.l2 : Nat → List (S26) → List (S26) → List (S121) → Int → List Int → Bool → Int → Int → Int → Int → Option (Bool)
 | 0, _, _, _, _, _, _, _, _, _, _ => none
 | k + 1, x5, x8, x10, x12, x13, x15, x56, x57, x83, x84 => if x84 < x83 then (if x15 = true then (chancerykeep1_DeltaAxisAgrees.l2 k x5 x8 x10 x12 x13 true x56 x57 x83 (wrap64 (x84 + 1))) else (if 0 ≤ x84 then (if x84 < (x8.length : Int) then (if 0 ≤ x12 then (if x12 < (x5.length : Int) then (if ((rd_T26 x8 x84).f0) = ((rd_T26 x5 x12).f0) then (if 0 < (x13.length : Int) then (chancerykeep1_DeltaAxisAgrees.l2 k x5 x8 x10 x12 x13 (x84 == (rd x13 0)) x56 x57 x83 (wrap64 (x84 + 1))) else (none)) else (chancerykeep1_DeltaAxisAgrees.l2 k x5 x8 x10 x12 x13 false x56 x57 x83 (wrap64 (x84 + 1)))) else (none)) else (none)) else (none)) else (none))) else (if 0 < (x13.length : Int) then (if (x15 != (decide ((rd x13 0) ≥ 0))) = true then (some false) else (chancerykeep1_DeltaAxisAgrees.l1 k x5 x8 x10 x56 (wrap64 (x57 + 1)))) else (none))
end
def chancerykeep1_DeltaAxisAgrees.f (k : Nat) (a0 : Int) (l1 : List Int) : Option (Bool) := (chancerykeep1_deltas.f).bind fun t357 => (if t357 = true then ((chancerykeep1_axes.f k).bind fun t358 => (chancerykeep1_DeltaAxisAgrees.j0 k a0 l1 (!t358))) else (chancerykeep1_DeltaAxisAgrees.j0 k a0 l1 true))
set_option maxHeartbeats 8000000 in
set_option maxRecDepth 100000 in
theorem chancerykeep1_DeltaAxisAgrees.calls (k : Nat) (a0 : Int) (A1 : Option Addr) (c1 : Nat) (l1 : List Int) (r : Bool) (w : World) (hr1 : Kd.C (Kd.int .i64) w A1 l1.length l1) (hc1 : l1.length ≤ c1) (h : chancerykeep1_DeltaAxisAgrees.f k a0 l1 = some r) :
  Calls Try.prog 7 #[.int .i64 a0, .slice A1 l1.length c1] w fun e w' => e = .returned (.bool r) ∧ Below w.heap.size w w' := by
 have hu26 := Try.underlying26
 have HR1 := Aside0.mk hr1
 have HC1 := Aside0.mk hc1
 clear hr1 hc1
 have HB := Aside0.mk (Below.refl w.heap.size w)
 have H : ((chancerykeep1_deltas.f).bind fun t357 => (if t357 = true then ((chancerykeep1_axes.f k).bind fun t358 => (chancerykeep1_DeltaAxisAgrees.j0 k a0 l1 (!t358))) else (chancerykeep1_DeltaAxisAgrees.j0 k a0 l1 true))) = some r := h
 clear h
 have HC3 := Aside0.mk H
 clear H
 go_enter Try.func7, Try.ntmps7
 go_upto_region 1 with (fail)
 repeat (go_quiet (fail); go_upto_region 1 with (fail))
 go_cut [22] (fun v22 wc => ∃ (kq : Nat) (x22_2 : Bool), v22 = .bool x22_2 ∧ Aside0 (chancerykeep1_DeltaAxisAgrees.j0 kq a0 l1 x22_2 = some r) ∧ Aside0 (kq ≤ k) ∧ Aside0 (Below w.heap.size w wc))
 case first =>
  have H := HC3.out
  clear HC3
  replace H := Option.bind_eq_some_iff.mp H
  obtain ⟨t357, A40, H⟩ := H
  replace H : (if t357 = true then ((chancerykeep1_axes.f k).bind fun t358 => (chancerykeep1_DeltaAxisAgrees.j0 k a0 l1 (!t358))) else (chancerykeep1_DeltaAxisAgrees.j0 k a0 l1 true)) = some r := H
  have A4 := Aside0.mk A40
  clear A40
  by_cases c5 : t357 = true
  ·subst c5
   have H1 : ((chancerykeep1_axes.f k).bind fun t358 => (chancerykeep1_DeltaAxisAgrees.j0 k a0 l1 (!t358))) = some r := by rw [if_pos rfl] at H; exact H
   clear H
   have H := H1
   clear H1
   replace H := Option.bind_eq_some_iff.mp H
   obtain ⟨t358, A60, H⟩ := H
   replace H : (chancerykeep1_DeltaAxisAgrees.j0 k a0 l1 (!t358)) = some r := H
   have A6 := Aside0.mk A60
   clear A60
   have H' := Aside0.mk H
   clear H
   go_wp2_with (first | (go_at_call 13; (with_reducible refine (chancerykeep1_deltas.calls  true _ A4.out).mono ?_); rintro e w7 ⟨rfl, hb⟩; replace HB := Aside0.mk (below_step (by with_reducible repeat first | exact HB.out | apply below_alloc | apply pw_below_drewN | apply below_drew1) hb); (try clear hb); (try clear hb2); (try clear hk); (try clear hi)) | (go_at_call 31; (with_reducible refine (chancerykeep1_axes.calls k  t358 _ A6.out).mono ?_); rintro e w8 ⟨rfl, hb⟩; replace HB := Aside0.mk (below_step (by with_reducible repeat first | exact HB.out | apply below_alloc | apply pw_below_drewN | apply below_drew1) hb); (try clear hb); (try clear hb2); (try clear hk); (try clear hi)))
   repeat (go_quiet (first | (go_at_call 13; (with_reducible refine (chancerykeep1_deltas.calls  true _ A4.out).mono ?_); rintro e w7 ⟨rfl, hb⟩; replace HB := Aside0.mk (below_step (by with_reducible repeat first | exact HB.out | apply below_alloc | apply pw_below_drewN | apply below_drew1) hb); (try clear hb); (try clear hb2); (try clear hk); (try clear hi)) | (go_at_call 31; (with_reducible refine (chancerykeep1_axes.calls k  t358 _ A6.out).mono ?_); rintro e w8 ⟨rfl, hb⟩; replace HB := Aside0.mk (below_step (by with_reducible repeat first | exact HB.out | apply below_alloc | apply pw_below_drewN | apply below_drew1) hb); (try clear hb); (try clear hb2); (try clear hk); (try clear hi))); try go_wp2_with (first | (go_at_call 13; (with_reducible refine (chancerykeep1_deltas.calls  true _ A4.out).mono ?_); rintro e w7 ⟨rfl, hb⟩; replace HB := Aside0.mk (below_step (by with_reducible repeat first | exact HB.out | apply below_alloc | apply pw_below_drewN | apply below_drew1) hb); (try clear hb); (try clear hb2); (try clear hk); (try clear hi)) | (go_at_call 31; (with_reducible refine (chancerykeep1_axes.calls k  t358 _ A6.out).mono ?_); rintro e w8 ⟨rfl, hb⟩; replace HB := Aside0.mk (below_step (by with_reducible repeat first | exact HB.out | apply below_alloc | apply pw_below_drewN | apply below_drew1) hb); (try clear hb); (try clear hb2); (try clear hk); (try clear hi))))
   go_meet
   case rel => exact ⟨_, (!t358), (by first | rfl | (simp; done) | (simp [*]; done)), H', ⟨by first | omega | exact Nat.le_refl _⟩, ⟨by repeat (first | (with_reducible first | exact HB.out | apply below_alloc | apply pw_below_drewN | apply below_drew1) | exact HB.out)⟩⟩
  ·replace c5 := Bool.eq_false_iff.mpr c5
   subst c5
   have H1 : (chancerykeep1_DeltaAxisAgrees.j0 k a0 l1 true) = some r := by rw [if_neg (show ¬ (false = true) by decide)] at H; exact H
   clear H
   have H := H1
   clear H1
   have H' := Aside0.mk H
   clear H
   go_wp2_with (first | (go_at_call 13; (with_reducible refine (chancerykeep1_deltas.calls  false _ A4.out).mono ?_); rintro e w9 ⟨rfl, hb⟩; replace HB := Aside0.mk (below_step (by with_reducible repeat first | exact HB.out | apply below_alloc | apply pw_below_drewN | apply below_drew1) hb); (try clear hb); (try clear hb2); (try clear hk); (try clear hi)))
   repeat (go_quiet (first | (go_at_call 13; (with_reducible refine (chancerykeep1_deltas.calls  false _ A4.out).mono ?_); rintro e w9 ⟨rfl, hb⟩; replace HB := Aside0.mk (below_step (by with_reducible repeat first | exact HB.out | apply below_alloc | apply pw_below_drewN | apply below_drew1) hb); (try clear hb); (try clear hb2); (try clear hk); (try clear hi))); try go_wp2_with (first | (go_at_call 13; (with_reducible refine (chancerykeep1_deltas.calls  false _ A4.out).mono ?_); rintro e w9 ⟨rfl, hb⟩; replace HB := Aside0.mk (below_step (by with_reducible repeat first | exact HB.out | apply below_alloc | apply pw_below_drewN | apply below_drew1) hb); (try clear hb); (try clear hb2); (try clear hk); (try clear hi))))
   go_meet
   case rel => exact ⟨_, (true), (by first | rfl | (simp; done) | (simp [*]; done)), H', ⟨by first | omega | exact Nat.le_refl _⟩, ⟨by repeat (first | (with_reducible first | exact HB.out | apply below_alloc | apply pw_below_drewN | apply below_drew1) | exact HB.out)⟩⟩
 case rest =>
  clear HC3
  try clear c1
  try clear p1
  try clear p2
  try clear c5
  try clear c7
  obtain ⟨kq, x22_2, rfl, HA, HJ2, HB⟩ := hcut
  cases kq with
  | zero => exact absurd HA.out (by simp [chancerykeep1_DeltaAxisAgrees.j0])
  | succ kj2 =>
   have H := HA.out
   clear HA
   simp only [chancerykeep1_DeltaAxisAgrees.j0] at H
   by_cases c10 : x22_2 = true
   ·subst c10
    have H1 : (some false) = some r := by rw [if_pos rfl] at H; exact H
    clear H
    have H := H1
    clear H1
    obtain rfl := Option.some.inj H
    go_wp2
    repeat (go_quiet (fail); try go_wp2)
    go_ret
    exact ⟨by first | rfl | (simp [errW_none, errW_some] <;> rfl) | (simp [*, errW_none, errW_some] <;> rfl), by repeat (first | (with_reducible first | exact HB.out | apply below_alloc | apply pw_below_drewN | apply below_drew1) | exact HB.out)⟩
   ·replace c10 := Bool.eq_false_iff.mpr c10
    subst c10
    have H1 : ((chanceryref1_Within.f a0 1 26).bind fun t359 => (chancerykeep1_DeltaAxisAgrees.l0 kj2 t359 l1 ([] : List (S26)) t359 0)) = some r := by rw [if_neg (show ¬ (false = true) by decide)] at H; exact H
    clear H
    have H := H1
    clear H1
    replace H := Option.bind_eq_some_iff.mp H
    obtain ⟨t359, A110, H⟩ := H
    replace H : (chancerykeep1_DeltaAxisAgrees.l0 kj2 t359 l1 ([] : List (S26)) t359 0) = some r := H
    have A11 := Aside0.mk A110
    clear A110
    have H' := Aside0.mk H
    clear H
    go_wp2_with (first | (go_at_call 20; (with_reducible refine (chanceryref1_Within.calls a0 1 26 t359 _ A11.out).mono ?_); rintro e w' ⟨rfl, ⟨nd, rfl⟩⟩; (try first | exact ⟨rfl, _, World.drewN_drewN _ _ _⟩ | exact ⟨rfl, _, Eq.trans (World.drewN_drewN _ _ _) (congrArg (World.drewN _) (Nat.add_assoc _ _ _))⟩)))
    repeat (go_quiet (first | (go_at_call 20; (with_reducible refine (chanceryref1_Within.calls a0 1 26 t359 _ A11.out).mono ?_); rintro e w' ⟨rfl, ⟨nd, rfl⟩⟩; (try first | exact ⟨rfl, _, World.drewN_drewN _ _ _⟩ | exact ⟨rfl, _, Eq.trans (World.drewN_drewN _ _ _) (congrArg (World.drewN _) (Nat.add_assoc _ _ _))⟩))); try go_wp2_with (first | (go_at_call 20; (with_reducible refine (chanceryref1_Within.calls a0 1 26 t359 _ A11.out).mono ?_); rintro e w' ⟨rfl, ⟨nd, rfl⟩⟩; (try first | exact ⟨rfl, _, World.drewN_drewN _ _ _⟩ | exact ⟨rfl, _, Eq.trans (World.drewN_drewN _ _ _) (congrArg (World.drewN _) (Nat.add_assoc _ _ _))⟩))))
    go_loopg [5, 26] kj2 (fun kq v5 v26 w' => ∃ (x5_2 : List (S26)) (x26_2 : Int), v26 = .int .i64 x26_2 ∧ Aside0 (chancerykeep1_DeltaAxisAgrees.l0 kq t359 l1 x5_2 t359 x26_2 = some r) ∧ Aside0 (kq ≤ kj2) ∧ Aside0 (Kd.N k26 26 w' w.heap.size (fun _ => True) v5 x5_2) ∧ Aside0 (Below w.heap.size w w'))
    case atStart => exact ⟨(([] : List (S26))), (0), (by first | rfl | (simp; done) | (simp [*]; done)), H', ⟨Nat.le_refl _⟩, ⟨by first | exact Kd.S_nil _ _ _ _ _ | exact Kd.N_nil _ _ _ _ _ | exact Kd.V_nil _ _ _ _ _ | exact Kd.Q_nil _ _ _ _ _ | exact Kd.R_nil _ _ _ _ _⟩, ⟨by repeat (first | (with_reducible first | exact HB.out | apply below_alloc | apply pw_below_drewN | apply below_drew1) | exact HB.out)⟩⟩
    case round =>
     clear H'
     try clear c1
     try clear p1
     try clear p2
     try clear c5
     try clear c7
     try clear c10
     try clear p1
     try clear p2
     obtain ⟨x5_2, x26_2, rfl, HA, HK2, HO_5, HB⟩ := hrel
     cases gk with
     | zero => exact absurd HA.out (by simp [chancerykeep1_DeltaAxisAgrees.l0])
     | succ k2 =>
      have H := HA.out
      clear HA
      simp only [chancerykeep1_DeltaAxisAgrees.l0] at H
      by_cases c12 : x26_2 < t359
      ·rw [if_pos c12] at H
       have c12b0 : decide (x26_2 < t359) = true := decide_eq_true c12
       clear c12
       by_cases c13 : x5_2.length < 3518437208883
       ·rw [if_pos c13] at H
        have LMc13 := Aside0.mk c13
        clear c13
        obtain ⟨y360, hy360⟩ : ∃ y_ : List (S26), y_ = (x5_2 ++ [(⟨wrap64 (97 + x26_2), 0, ([] : List (S91))⟩ : S26)]) := ⟨_, rfl⟩
        replace H : (chancerykeep1_DeltaAxisAgrees.l0 k2 t359 l1 y360 t359 (wrap64 (x26_2 + 1))) = some r := by first | (rw [hy360]; with_reducible exact H) | (have H2_ := (Option.bind_some _ _).symm.trans H; rw [hy360]; with_reducible exact H2_) | (have H2_ := (Option.bind_some _ _).symm.trans H; with_reducible exact H2_) | with_reducible exact H | (rw [hy360]; exact H) | exact H
        have Ny360 := Aside0.mk hy360
        clear hy360
        have H' := Aside0.mk H
        clear H
        go_wp2_with (first | ((with_reducible refine gate_builtin (b := .append) (xs := #[.tmp 29, .tmp 33]) rfl ?_); (try (refine gate_guard (by rfl) ?_; dsimp only)); at_builtin; refine Kd.N_append k26 (w0 := w) w.heap.size rfl (.tmp 29) (.tmp 33) 22 26 (.agg #[(.int .i64 0), (.int .i64 0), (.slice none 0 0)]) 40 rfl Try.underlying22 info26 rfl (by decide) (by omega) u5 x5_2 (⟨wrap64 (97 + x26_2), 0, ([] : List (S91))⟩ : S26) [.int .i64 (wrap64 (97 + x26_2)), .int .i64 0, .slice none 0 0] (fun _ => True) (fun k_ => ((fun _ => True)) k_ ∧ some k_ ≠ (u5 : Value).ownBlock) rfl rfl ?aP (fun _ hk => hk) ?aF ?aO ?aB ?aS ?aL ?_; (case aP => exact (k26_mkF _ _ (⟨wrap64 (97 + x26_2), 0, ([] : List (S91))⟩ : S26) (Nat.le_refl _) (Kd.F_nil _ _ _))); (case aB => exact (by with_reducible repeat first | exact HB.out | apply below_alloc | apply pw_below_drewN | apply below_drew1)); (case aF => exact (fun _ _ => trivial)); (case aO => exact (by (with_reducible repeat (first | apply Kd.N_alloc | apply Kd.N_drewN | apply Kd.N_drew)); exact HO_5.out)); (case aS => exact (below_size (by with_reducible repeat first | exact HB.out | apply below_alloc | apply pw_below_drewN | apply below_drew1))); (case aL => have := LMc13.out; omega); intro v361 w14 ho hb hg hat; rw [← Ny360.out] at ho; have n0_ := Aside0.mk (hb); have n1_ := Aside0.mk (ho); clear HB; clear HO_5; have HB := n0_; have HO362 := n1_; clear n0_ n1_; clear ho hb hg hat))
        repeat (go_quiet (first | ((with_reducible refine gate_builtin (b := .append) (xs := #[.tmp 29, .tmp 33]) rfl ?_); (try (refine gate_guard (by rfl) ?_; dsimp only)); at_builtin; refine Kd.N_append k26 (w0 := w) w.heap.size rfl (.tmp 29) (.tmp 33) 22 26 (.agg #[(.int .i64 0), (.int .i64 0), (.slice none 0 0)]) 40 rfl Try.underlying22 info26 rfl (by decide) (by omega) u5 x5_2 (⟨wrap64 (97 + x26_2), 0, ([] : List (S91))⟩ : S26) [.int .i64 (wrap64 (97 + x26_2)), .int .i64 0, .slice none 0 0] (fun _ => True) (fun k_ => ((fun _ => True)) k_ ∧ some k_ ≠ (u5 : Value).ownBlock) rfl rfl ?aP (fun _ hk => hk) ?aF ?aO ?aB ?aS ?aL ?_; (case aP => exact (k26_mkF _ _ (⟨wrap64 (97 + x26_2), 0, ([] : List (S91))⟩ : S26) (Nat.le_refl _) (Kd.F_nil _ _ _))); (case aB => exact (by with_reducible repeat first | exact HB.out | apply below_alloc | apply pw_below_drewN | apply below_drew1)); (case aF => exact (fun _ _ => trivial)); (case aO => exact (by (with_reducible repeat (first | apply Kd.N_alloc | apply Kd.N_drewN | apply Kd.N_drew)); exact HO_5.out)); (case aS => exact (below_size (by with_reducible repeat first | exact HB.out | apply below_alloc | apply pw_below_drewN | apply below_drew1))); (case aL => have := LMc13.out; omega); intro v361 w14 ho hb hg hat; rw [← Ny360.out] at ho; have n0_ := Aside0.mk (hb); have n1_ := Aside0.mk (ho); clear HB; clear HO_5; have HB := n0_; have HO362 := n1_; clear n0_ n1_; clear ho hb hg hat)); try go_wp2_with (first | ((with_reducible refine gate_builtin (b := .append) (xs := #[.tmp 29, .tmp 33]) rfl ?_); (try (refine gate_guard (by rfl) ?_; dsimp only)); at_builtin; refine Kd.N_append k26 (w0 := w) w.heap.size rfl (.tmp 29) (.tmp 33) 22 26 (.agg #[(.int .i64 0), (.int .i64 0), (.slice none 0 0)]) 40 rfl Try.underlying22 info26 rfl (by decide) (by omega) u5 x5_2 (⟨wrap64 (97 + x26_2), 0, ([] : List (S91))⟩ : S26) [.int .i64 (wrap64 (97 + x26_2)), .int .i64 0, .slice none 0 0] (fun _ => True) (fun k_ => ((fun _ => True)) k_ ∧ some k_ ≠ (u5 : Value).ownBlock) rfl rfl ?aP (fun _ hk => hk) ?aF ?aO ?aB ?aS ?aL ?_; (case aP => exact (k26_mkF _ _ (⟨wrap64 (97 + x26_2), 0, ([] : List (S91))⟩ : S26) (Nat.le_refl _) (Kd.F_nil _ _ _))); (case aB => exact (by with_reducible repeat first | exact HB.out | apply below_alloc | apply pw_below_drewN | apply below_drew1)); (case aF => exact (fun _ _ => trivial)); (case aO => exact (by (with_reducible repeat (first | apply Kd.N_alloc | apply Kd.N_drewN | apply Kd.N_drew)); exact HO_5.out)); (case aS => exact (below_size (by with_reducible repeat first | exact HB.out | apply below_alloc | apply pw_below_drewN | apply below_drew1))); (case aL => have := LMc13.out; omega); intro v361 w14 ho hb hg hat; rw [← Ny360.out] at ho; have n0_ := Aside0.mk (hb); have n1_ := Aside0.mk (ho); clear HB; clear HO_5; have HB := n0_; have HO362 := n1_; clear n0_ n1_; clear ho hb hg hat)))
        go_roundg k2
        case measure => have := HJ2.out; have := HK2.out; omega
        case rel => exact ⟨(y360), (wrap64 (x26_2 + 1)), (by first | rfl | (simp; done) | (simp [*]; done)), H', ⟨by have := HJ2.out; have := HK2.out; omega⟩, ⟨by (with_reducible repeat (first | apply Kd.N_alloc | apply Kd.N_drewN | apply Kd.N_drew)); exact HO362.out⟩, ⟨by repeat (first | (with_reducible first | exact HB.out | apply below_alloc | apply pw_below_drewN | apply below_drew1) | exact HB.out)⟩⟩
       ·rw [if_neg c13] at H
        exact absurd H (by simp)
      ·rw [if_neg c12] at H
       have c12b0 : decide (x26_2 < t359) = false := decide_eq_false c12
       clear c12
       replace H := Option.bind_eq_some_iff.mp H
       obtain ⟨t363, A150, H⟩ := H
       replace H : ((delta_Apply.f k2 x5_2 t363).bind fun bt366 => ((delta_Axis.f k2 t363).bind fun bt370 => (if bt366.2 = 0 then (chancerykeep1_DeltaAxisAgrees.j2 k2 t359 x5_2 bt366.1 bt370.1 (bt370.2 != 0)) else (chancerykeep1_DeltaAxisAgrees.j2 k2 t359 x5_2 bt366.1 bt370.1 true)))) = some r := H
       have A15 := Aside0.mk A150
       clear A150
       replace H := Option.bind_eq_some_iff.mp H
       obtain ⟨⟨t366, t369⟩, A160, H⟩ := H
       replace H : ((delta_Axis.f k2 t363).bind fun bt370 => (if t369 = 0 then (chancerykeep1_DeltaAxisAgrees.j2 k2 t359 x5_2 t366 bt370.1 (bt370.2 != 0)) else (chancerykeep1_DeltaAxisAgrees.j2 k2 t359 x5_2 t366 bt370.1 true))) = some r := H
       have A16 := Aside0.mk A160
       clear A160
       replace H := Option.bind_eq_some_iff.mp H
       obtain ⟨⟨t370, t371⟩, A170, H⟩ := H
       replace H : (if t369 = 0 then (chancerykeep1_DeltaAxisAgrees.j2 k2 t359 x5_2 t366 t370 (t371 != 0)) else (chancerykeep1_DeltaAxisAgrees.j2 k2 t359 x5_2 t366 t370 true)) = some r := H
       have A17 := Aside0.mk A170
       clear A170
       have HC18 := Aside0.mk H
       clear H
       go_upto_region 13 with (first | (go_at_call 21; (with_reducible refine (chancerykeep1_change.calls t359 _ _ l1 (⟨#[120]⟩ : ByteArray) t363 _ ?side1 ?side2 A15.out).mono ?_); (case side1 => repeat (first | exact (Kd.C_below HR1.out HB.out) | (with_reducible refine Kd.C_alloc ?_ _) | (with_reducible refine Kd.C_drewN ?_ _) | (with_reducible refine Kd.C_drew ?_))); (case side2 => exact HC1.out); rintro e w19 ⟨v364, rfl, ho0, hb⟩; have n0_ := Aside0.mk (Kd.N_elder' (by (with_reducible repeat (first | apply Kd.N_alloc | apply Kd.N_drewN | apply Kd.N_drew)); exact HO_5.out) (Kd.N_base (by first | exact ho0 | exact Kd.S_N ho0)) hb); have n1_ := Aside0.mk (Kd.N_lower (Kd.N_mono (ok' := fun k_ => True) ho0 (fun k_ hk_ => trivial)) (below_size (by with_reducible repeat first | exact HB.out | apply below_alloc | apply pw_below_drewN | apply below_drew1))); have n2_ := Aside0.mk (below_step (by with_reducible repeat first | exact HB.out | apply below_alloc | apply pw_below_drewN | apply below_drew1) hb); clear HO_5; clear HB; have HO_5 := n0_; have HO365 := n1_; have HB := n2_; clear n0_ n1_ n2_; (try clear hb); (try clear hb2); (try clear hk); (try clear hi); (try clear ho0); obtain ⟨Ao20, co20, eo20⟩ := Kd.N_slice HO_5.out; subst eo20; obtain ⟨Ao21, co21, eo21⟩ := Kd.N_slice HO365.out; subst eo21) | (go_at_call 22; (with_reducible refine (delta_Apply.calls k2 (fun k_ => (True ∧ some k_ ≠ (.slice Ao21 t363.length co21 : Value).ownBlock)) _ _ x5_2 _ _ t363 t366 t369 _ ?side1 ?side2 ?side3 A16.out).mono ?_); (case side1 => exact Kd.N_V (HO_5.out)); (case side2 => repeat (first | exact (Kd.N_reads' HO365.out).2.2 | (with_reducible refine Kd.C_alloc ?_ _) | (with_reducible refine Kd.C_drewN ?_ _) | (with_reducible refine Kd.C_drew ?_))); (case side3 => exact (Kd.N_reads' HO365.out).2.1); rintro e w22 ⟨v367, rfl, ho0, hb⟩; have n0_ := Aside0.mk (Kd.N_elder' (by (with_reducible repeat (first | apply Kd.N_alloc | apply Kd.N_drewN | apply Kd.N_drew)); exact HO_5.out) (Kd.N_base (by first | exact ho0 | exact Kd.S_N ho0)) hb); have n1_ := Aside0.mk (Kd.N_elder' (by (with_reducible repeat (first | apply Kd.N_alloc | apply Kd.N_drewN | apply Kd.N_drew)); exact HO365.out) (Kd.N_base (by first | exact ho0 | exact Kd.S_N ho0)) hb); have n2_ := Aside0.mk (Kd.N_lower (Kd.N_mono (ok' := fun k_ => some k_ ≠ (.slice Ao21 t363.length co21 : Value).ownBlock) ho0 (fun k_ hk_ => Or.elim hk_ (fun hs_ => hs_.2) (fun hn_ => (Kd.fresh' (Kd.N_lt (by (with_reducible repeat (first | apply Kd.N_alloc | apply Kd.N_drewN | apply Kd.N_drew)); exact HO365.out)) k_ hn_)))) (below_size (by with_reducible repeat first | exact HB.out | apply below_alloc | apply pw_below_drewN | apply below_drew1))); have n3_ := Aside0.mk (below_step (by with_reducible repeat first | exact HB.out | apply below_alloc | apply pw_below_drewN | apply below_drew1) hb); clear HO_5; clear HO365; clear HB; have HO_5 := n0_; have HO365 := n1_; have HO368 := n2_; have HB := n3_; clear n0_ n1_ n2_ n3_; (try clear hb); (try clear hb2); (try clear hk); (try clear hi); (try clear ho0)) | (go_at_call 32; (with_reducible refine (delta_Axis.calls k2 _ _ t363 t370 t371 _ ?side1 ?side2 A17.out).mono ?_); (case side1 => repeat (first | exact (Kd.N_reads' HO365.out).2.2 | (with_reducible refine Kd.C_alloc ?_ _) | (with_reducible refine Kd.C_drewN ?_ _) | (with_reducible refine Kd.C_drew ?_))); (case side2 => exact (Kd.N_reads' HO365.out).2.1); rintro e w23 ⟨v372, rfl, ho0, hb⟩; have n0_ := Aside0.mk (Kd.N_elder' (by (with_reducible repeat (first | apply Kd.N_alloc | apply Kd.N_drewN | apply Kd.N_drew)); exact HO_5.out) (Kd.R_base ho0) hb); have n1_ := Aside0.mk (Kd.N_elder' (by (with_reducible repeat (first | apply Kd.N_alloc | apply Kd.N_drewN | apply Kd.N_drew)); exact HO365.out) (Kd.R_base ho0) hb); have n2_ := Aside0.mk (Kd.N_elder' (by (with_reducible repeat (first | apply Kd.N_alloc | apply Kd.N_drewN | apply Kd.N_drew)); exact HO368.out) (Kd.R_base ho0) hb); have n3_ := Aside0.mk (Kd.R_lower ho0 (below_size (by with_reducible repeat first | exact HB.out | apply below_alloc | apply pw_below_drewN | apply below_drew1))); have n4_ := Aside0.mk (below_step (by with_reducible repeat first | exact HB.out | apply below_alloc | apply pw_below_drewN | apply below_drew1) hb); clear HO_5; clear HO365; clear HO368; clear HB; have HO_5 := n0_; have HO365 := n1_; have HO368 := n2_; have HO373 := n3_; have HB := n4_; clear n0_ n1_ n2_ n3_ n4_; (try clear hb); (try clear hb2); (try clear hk); (try clear hi); (try clear ho0)))
       repeat (go_quiet (first | (go_at_call 21; (with_reducible refine (chancerykeep1_change.calls t359 _ _ l1 (⟨#[120]⟩ : ByteArray) t363 _ ?side1 ?side2 A15.out).mono ?_); (case side1 => repeat (first | exact (Kd.C_below HR1.out HB.out) | (with_reducible refine Kd.C_alloc ?_ _) | (with_reducible refine Kd.C_drewN ?_ _) | (with_reducible refine Kd.C_drew ?_))); (case side2 => exact HC1.out); rintro e w19 ⟨v364, rfl, ho0, hb⟩; have n0_ := Aside0.mk (Kd.N_elder' (by (with_reducible repeat (first | apply Kd.N_alloc | apply Kd.N_drewN | apply Kd.N_drew)); exact HO_5.out) (Kd.N_base (by first | exact ho0 | exact Kd.S_N ho0)) hb); have n1_ := Aside0.mk (Kd.N_lower (Kd.N_mono (ok' := fun k_ => True) ho0 (fun k_ hk_ => trivial)) (below_size (by with_reducible repeat first | exact HB.out | apply below_alloc | apply pw_below_drewN | apply below_drew1))); have n2_ := Aside0.mk (below_step (by with_reducible repeat first | exact HB.out | apply below_alloc | apply pw_below_drewN | apply below_drew1) hb); clear HO_5; clear HB; have HO_5 := n0_; have HO365 := n1_; have HB := n2_; clear n0_ n1_ n2_; (try clear hb); (try clear hb2); (try clear hk); (try clear hi); (try clear ho0); obtain ⟨Ao20, co20, eo20⟩ := Kd.N_slice HO_5.out; subst eo20; obtain ⟨Ao21, co21, eo21⟩ := Kd.N_slice HO365.out; subst eo21) | (go_at_call 22; (with_reducible refine (delta_Apply.calls k2 (fun k_ => (True ∧ some k_ ≠ (.slice Ao21 t363.length co21 : Value).ownBlock)) _ _ x5_2 _ _ t363 t366 t369 _ ?side1 ?side2 ?side3 A16.out).mono ?_); (case side1 => exact Kd.N_V (HO_5.out)); (case side2 => repeat (first | exact (Kd.N_reads' HO365.out).2.2 | (with_reducible refine Kd.C_alloc ?_ _) | (with_reducible refine Kd.C_drewN ?_ _) | (with_reducible refine Kd.C_drew ?_))); (case side3 => exact (Kd.N_reads' HO365.out).2.1); rintro e w22 ⟨v367, rfl, ho0, hb⟩; have n0_ := Aside0.mk (Kd.N_elder' (by (with_reducible repeat (first | apply Kd.N_alloc | apply Kd.N_drewN | apply Kd.N_drew)); exact HO_5.out) (Kd.N_base (by first | exact ho0 | exact Kd.S_N ho0)) hb); have n1_ := Aside0.mk (Kd.N_elder' (by (with_reducible repeat (first | apply Kd.N_alloc | apply Kd.N_drewN | apply Kd.N_drew)); exact HO365.out) (Kd.N_base (by first | exact ho0 | exact Kd.S_N ho0)) hb); have n2_ := Aside0.mk (Kd.N_lower (Kd.N_mono (ok' := fun k_ => some k_ ≠ (.slice Ao21 t363.length co21 : Value).ownBlock) ho0 (fun k_ hk_ => Or.elim hk_ (fun hs_ => hs_.2) (fun hn_ => (Kd.fresh' (Kd.N_lt (by (with_reducible repeat (first | apply Kd.N_alloc | apply Kd.N_drewN | apply Kd.N_drew)); exact HO365.out)) k_ hn_)))) (below_size (by with_reducible repeat first | exact HB.out | apply below_alloc | apply pw_below_drewN | apply below_drew1))); have n3_ := Aside0.mk (below_step (by with_reducible repeat first | exact HB.out | apply below_alloc | apply pw_below_drewN | apply below_drew1) hb); clear HO_5; clear HO365; clear HB; have HO_5 := n0_; have HO365 := n1_; have HO368 := n2_; have HB := n3_; clear n0_ n1_ n2_ n3_; (try clear hb); (try clear hb2); (try clear hk); (try clear hi); (try clear ho0)) | (go_at_call 32; (with_reducible refine (delta_Axis.calls k2 _ _ t363 t370 t371 _ ?side1 ?side2 A17.out).mono ?_); (case side1 => repeat (first | exact (Kd.N_reads' HO365.out).2.2 | (with_reducible refine Kd.C_alloc ?_ _) | (with_reducible refine Kd.C_drewN ?_ _) | (with_reducible refine Kd.C_drew ?_))); (case side2 => exact (Kd.N_reads' HO365.out).2.1); rintro e w23 ⟨v372, rfl, ho0, hb⟩; have n0_ := Aside0.mk (Kd.N_elder' (by (with_reducible repeat (first | apply Kd.N_alloc | apply Kd.N_drewN | apply Kd.N_drew)); exact HO_5.out) (Kd.R_base ho0) hb); have n1_ := Aside0.mk (Kd.N_elder' (by (with_reducible repeat (first | apply Kd.N_alloc | apply Kd.N_drewN | apply Kd.N_drew)); exact HO365.out) (Kd.R_base ho0) hb); have n2_ := Aside0.mk (Kd.N_elder' (by (with_reducible repeat (first | apply Kd.N_alloc | apply Kd.N_drewN | apply Kd.N_drew)); exact HO368.out) (Kd.R_base ho0) hb); have n3_ := Aside0.mk (Kd.R_lower ho0 (below_size (by with_reducible repeat first | exact HB.out | apply below_alloc | apply pw_below_drewN | apply below_drew1))); have n4_ := Aside0.mk (below_step (by with_reducible repeat first | exact HB.out | apply below_alloc | apply pw_below_drewN | apply below_drew1) hb); clear HO_5; clear HO365; clear HO368; clear HB; have HO_5 := n0_; have HO365 := n1_; have HO368 := n2_; have HO373 := n3_; have HB := n4_; clear n0_ n1_ n2_ n3_ n4_; (try clear hb); (try clear hb2); (try clear hk); (try clear hi); (try clear ho0))); go_upto_region 13 with (first | (go_at_call 21; (with_reducible refine (chancerykeep1_change.calls t359 _ _ l1 (⟨#[120]⟩ : ByteArray) t363 _ ?side1 ?side2 A15.out).mono ?_); (case side1 => repeat (first | exact (Kd.C_below HR1.out HB.out) | (with_reducible refine Kd.C_alloc ?_ _) | (with_reducible refine Kd.C_drewN ?_ _) | (with_reducible refine Kd.C_drew ?_))); (case side2 => exact HC1.out); rintro e w19 ⟨v364, rfl, ho0, hb⟩; have n0_ := Aside0.mk (Kd.N_elder' (by (with_reducible repeat (first | apply Kd.N_alloc | apply Kd.N_drewN | apply Kd.N_drew)); exact HO_5.out) (Kd.N_base (by first | exact ho0 | exact Kd.S_N ho0)) hb); have n1_ := Aside0.mk (Kd.N_lower (Kd.N_mono (ok' := fun k_ => True) ho0 (fun k_ hk_ => trivial)) (below_size (by with_reducible repeat first | exact HB.out | apply below_alloc | apply pw_below_drewN | apply below_drew1))); have n2_ := Aside0.mk (below_step (by with_reducible repeat first | exact HB.out | apply below_alloc | apply pw_below_drewN | apply below_drew1) hb); clear HO_5; clear HB; have HO_5 := n0_; have HO365 := n1_; have HB := n2_; clear n0_ n1_ n2_; (try clear hb); (try clear hb2); (try clear hk); (try clear hi); (try clear ho0); obtain ⟨Ao20, co20, eo20⟩ := Kd.N_slice HO_5.out; subst eo20; obtain ⟨Ao21, co21, eo21⟩ := Kd.N_slice HO365.out; subst eo21) | (go_at_call 22; (with_reducible refine (delta_Apply.calls k2 (fun k_ => (True ∧ some k_ ≠ (.slice Ao21 t363.length co21 : Value).ownBlock)) _ _ x5_2 _ _ t363 t366 t369 _ ?side1 ?side2 ?side3 A16.out).mono ?_); (case side1 => exact Kd.N_V (HO_5.out)); (case side2 => repeat (first | exact (Kd.N_reads' HO365.out).2.2 | (with_reducible refine Kd.C_alloc ?_ _) | (with_reducible refine Kd.C_drewN ?_ _) | (with_reducible refine Kd.C_drew ?_))); (case side3 => exact (Kd.N_reads' HO365.out).2.1); rintro e w22 ⟨v367, rfl, ho0, hb⟩; have n0_ := Aside0.mk (Kd.N_elder' (by (with_reducible repeat (first | apply Kd.N_alloc | apply Kd.N_drewN | apply Kd.N_drew)); exact HO_5.out) (Kd.N_base (by first | exact ho0 | exact Kd.S_N ho0)) hb); have n1_ := Aside0.mk (Kd.N_elder' (by (with_reducible repeat (first | apply Kd.N_alloc | apply Kd.N_drewN | apply Kd.N_drew)); exact HO365.out) (Kd.N_base (by first | exact ho0 | exact Kd.S_N ho0)) hb); have n2_ := Aside0.mk (Kd.N_lower (Kd.N_mono (ok' := fun k_ => some k_ ≠ (.slice Ao21 t363.length co21 : Value).ownBlock) ho0 (fun k_ hk_ => Or.elim hk_ (fun hs_ => hs_.2) (fun hn_ => (Kd.fresh' (Kd.N_lt (by (with_reducible repeat (first | apply Kd.N_alloc | apply Kd.N_drewN | apply Kd.N_drew)); exact HO365.out)) k_ hn_)))) (below_size (by with_reducible repeat first | exact HB.out | apply below_alloc | apply pw_below_drewN | apply below_drew1))); have n3_ := Aside0.mk (below_step (by with_reducible repeat first | exact HB.out | apply below_alloc | apply pw_below_drewN | apply below_drew1) hb); clear HO_5; clear HO365; clear HB; have HO_5 := n0_; have HO365 := n1_; have HO368 := n2_; have HB := n3_; clear n0_ n1_ n2_ n3_; (try clear hb); (try clear hb2); (try clear hk); (try clear hi); (try clear ho0)) | (go_at_call 32; (with_reducible refine (delta_Axis.calls k2 _ _ t363 t370 t371 _ ?side1 ?side2 A17.out).mono ?_); (case side1 => repeat (first | exact (Kd.N_reads' HO365.out).2.2 | (with_reducible refine Kd.C_alloc ?_ _) | (with_reducible refine Kd.C_drewN ?_ _) | (with_reducible refine Kd.C_drew ?_))); (case side2 => exact (Kd.N_reads' HO365.out).2.1); rintro e w23 ⟨v372, rfl, ho0, hb⟩; have n0_ := Aside0.mk (Kd.N_elder' (by (with_reducible repeat (first | apply Kd.N_alloc | apply Kd.N_drewN | apply Kd.N_drew)); exact HO_5.out) (Kd.R_base ho0) hb); have n1_ := Aside0.mk (Kd.N_elder' (by (with_reducible repeat (first | apply Kd.N_alloc | apply Kd.N_drewN | apply Kd.N_drew)); exact HO365.out) (Kd.R_base ho0) hb); have n2_ := Aside0.mk (Kd.N_elder' (by (with_reducible repeat (first | apply Kd.N_alloc | apply Kd.N_drewN | apply Kd.N_drew)); exact HO368.out) (Kd.R_base ho0) hb); have n3_ := Aside0.mk (Kd.R_lower ho0 (below_size (by with_reducible repeat first | exact HB.out | apply below_alloc | apply pw_below_drewN | apply below_drew1))); have n4_ := Aside0.mk (below_step (by with_reducible repeat first | exact HB.out | apply below_alloc | apply pw_below_drewN | apply below_drew1) hb); clear HO_5; clear HO365; clear HO368; clear HB; have HO_5 := n0_; have HO365 := n1_; have HO368 := n2_; have HO373 := n3_; have HB := n4_; clear n0_ n1_ n2_ n3_ n4_; (try clear hb); (try clear hb2); (try clear hk); (try clear hi); (try clear ho0))))
       (try simp only [Act.put, List.setIfInBounds_toArray, List.set_cons_zero, List.set_cons_succ])
       go_cut [55] (fun v55 wc => ∃ (kq : Nat) (x55_17 : Bool), v55 = .bool x55_17 ∧ Aside0 (chancerykeep1_DeltaAxisAgrees.j2 kq t359 x5_2 t366 t370 x55_17 = some r) ∧ Aside0 (kq ≤ k2) ∧ Aside0 (Kd.N k26 26 wc w.heap.size (fun k_ => some k_ ≠ (v367 : Value).ownBlock ∧ some k_ ≠ (v372 : Value).ownBlock) (.slice Ao20 x5_2.length co20) x5_2) ∧ Aside0 (Kd.N k26 26 wc w.heap.size (fun k_ => some k_ ≠ (v372 : Value).ownBlock) v367 t366) ∧ Aside0 (Kd.R k121 121 wc w.heap.size (fun _ => True) v372 t370) ∧ Aside0 (Below w.heap.size w wc))
       case first =>
        have H := HC18.out
        clear HC18
        by_cases c24 : t369 = 0
        ·rw [if_pos c24] at H
         have c24b0 : (t369 == 0) = true := beq_iff_eq.mpr c24
         have c24b1 : (t369 != 0) = false := bne_eq_false_iff_eq.mpr c24
         clear c24
         (first | rw [c24b0] | (simp only [i64_w, i32_w]; rw [c24b0]) | skip)
         have H' := Aside0.mk H
         clear H
         go_wp2
         repeat (go_quiet (fail); try go_wp2)
         go_meet
         case rel => exact ⟨_, ((t371 != 0)), (by first | rfl | (simp; done) | (simp [*]; done)), H', ⟨by have := HJ2.out; have := HK2.out; first | omega | exact Nat.le_refl _⟩, ⟨by (with_reducible repeat (first | apply Kd.N_alloc | apply Kd.N_drewN | apply Kd.N_drew)); exact Kd.N_mono HO_5.out (fun _ hk => ⟨hk.1.2, hk.2⟩)⟩, ⟨by (with_reducible repeat (first | apply Kd.N_alloc | apply Kd.N_drewN | apply Kd.N_drew)); exact Kd.N_mono HO368.out (fun _ hk => hk.2)⟩, ⟨by (with_reducible repeat (first | apply Kd.R_alloc | apply Kd.R_drewN | apply Kd.R_drew)); exact HO373.out⟩, ⟨by repeat (first | (with_reducible first | exact HB.out | apply below_alloc | apply pw_below_drewN | apply below_drew1) | exact HB.out)⟩⟩
        ·rw [if_neg c24] at H
         have c24b0 : (t369 == 0) = false := beq_eq_false_iff_ne.mpr c24
         have c24b1 : (t369 != 0) = true := bne_iff_ne.mpr c24
         (first | rw [c24b0] | (simp only [i64_w, i32_w]; rw [c24b0]) | skip)
         have H' := Aside0.mk H
         clear H
         go_wp2
         repeat (go_quiet (fail); try go_wp2)
         go_meet
         case rel => exact ⟨_, (true), (by first | rfl | (simp; done) | (simp [*]; done)), H', ⟨by have := HJ2.out; have := HK2.out; first | omega | exact Nat.le_refl _⟩, ⟨by (with_reducible repeat (first | apply Kd.N_alloc | apply Kd.N_drewN | apply Kd.N_drew)); exact Kd.N_mono HO_5.out (fun _ hk => ⟨hk.1.2, hk.2⟩)⟩, ⟨by (with_reducible repeat (first | apply Kd.N_alloc | apply Kd.N_drewN | apply Kd.N_drew)); exact Kd.N_mono HO368.out (fun _ hk => hk.2)⟩, ⟨by (with_reducible repeat (first | apply Kd.R_alloc | apply Kd.R_drewN | apply Kd.R_drew)); exact HO373.out⟩, ⟨by repeat (first | (with_reducible first | exact HB.out | apply below_alloc | apply pw_below_drewN | apply below_drew1) | exact HB.out)⟩⟩
       case rest =>
        clear HC18
        try clear c1
        try clear p1
        try clear c2
        try clear p2
        try clear c5
        try clear p6
        try clear c7
        try clear c10
        try clear c12
        try clear c12b0
        try clear c13
        try clear c24
        try clear c24b0
        try clear c24b1
        try clear p1
        try clear p2
        obtain ⟨kq, x55_17, rfl, HA, HJ17, HO_5, HO_8, HO_10, HB⟩ := hcut
        cases kq with
        | zero => exact absurd HA.out (by simp [chancerykeep1_DeltaAxisAgrees.j2])
        | succ kj17 =>
         have H := HA.out
         clear HA
         simp only [chancerykeep1_DeltaAxisAgrees.j2] at H
         by_cases c25 : x55_17 = true
         ·subst c25
          have H1 : (some false) = some r := by rw [if_pos rfl] at H; exact H
          clear H
          have H := H1
          clear H1
          obtain rfl := Option.some.inj H
          go_wp2
          repeat (go_quiet (fail); try go_wp2)
          go_ret
          exact ⟨by first | rfl | (simp [errW_none, errW_some] <;> rfl) | (simp [*, errW_none, errW_some] <;> rfl), by repeat (first | (with_reducible first | exact HB.out | apply below_alloc | apply pw_below_drewN | apply below_drew1) | exact HB.out)⟩
         ·replace c25 := Bool.eq_false_iff.mpr c25
          subst c25
          have H1 : (chancerykeep1_DeltaAxisAgrees.l1 kj17 x5_2 t366 t370 t359 0) = some r := by rw [if_neg (show ¬ (false = true) by decide)] at H; exact H
          clear H
          have H := H1
          clear H1
          have H' := Aside0.mk H
          clear H
          go_wp2
          repeat (go_quiet (fail); try go_wp2)
          go_loopg [57] kj17 (fun kq v57 w' => ∃ (x57_4 : Int), v57 = .int .i64 x57_4 ∧ Aside0 (chancerykeep1_DeltaAxisAgrees.l1 kq x5_2 t366 t370 t359 x57_4 = some r) ∧ Aside0 (kq ≤ kj17) ∧ Aside0 (Kd.N k26 26 w' w.heap.size (fun k_ => some k_ ≠ (v367 : Value).ownBlock ∧ some k_ ≠ (v372 : Value).ownBlock) (.slice Ao20 x5_2.length co20) x5_2) ∧ Aside0 (Kd.N k26 26 w' w.heap.size (fun k_ => some k_ ≠ (v372 : Value).ownBlock) v367 t366) ∧ Aside0 (Kd.R k121 121 w' w.heap.size (fun _ => True) v372 t370) ∧ Aside0 (Below w.heap.size w w'))
          case atStart => exact ⟨(0), (by first | rfl | (simp; done) | (simp [*]; done)), H', ⟨Nat.le_refl _⟩, ⟨by (with_reducible repeat (first | apply Kd.N_alloc | apply Kd.N_drewN | apply Kd.N_drew)); exact HO_5.out⟩, ⟨by (with_reducible repeat (first | apply Kd.N_alloc | apply Kd.N_drewN | apply Kd.N_drew)); exact HO_8.out⟩, ⟨by (with_reducible repeat (first | apply Kd.R_alloc | apply Kd.R_drewN | apply Kd.R_drew)); exact HO_10.out⟩, ⟨by repeat (first | (with_reducible first | exact HB.out | apply below_alloc | apply pw_below_drewN | apply below_drew1) | exact HB.out)⟩⟩
          case round =>
           clear H'
           try clear c1
           try clear p1
           try clear c2
           try clear p2
           try clear c5
           try clear p6
           try clear c7
           try clear c10
           try clear c12
           try clear c12b0
           try clear c13
           try clear c24
           try clear c24b0
           try clear c24b1
           try clear c25
           try clear p1
           try clear p2
           try clear p6
           obtain ⟨x57_4, rfl, HA, HK4, HO_5, HO_8, HO_10, HB⟩ := hrel
           cases gk with
           | zero => exact absurd HA.out (by simp [chancerykeep1_DeltaAxisAgrees.l1])
           | succ k4 =>
            have H := HA.out
            clear HA
            simp only [chancerykeep1_DeltaAxisAgrees.l1] at H
            by_cases c26 : x57_4 < t359
            ·rw [if_pos c26] at H
             have c26b0 : decide (x57_4 < t359) = true := decide_eq_true c26
             clear c26
             obtain ⟨y374, hy374⟩ : ∃ y_ : List Int, y_ = (([x57_4] : List Int)) := ⟨_, rfl⟩
             replace H : ((axis_Apply.f k4 t370 y374).bind fun bt377 => (if bt377.2 = 0 then (if (bt377.1.length : Int) = 1 then (if 0 < (bt377.1.length : Int) then (chancerykeep1_DeltaAxisAgrees.j4 k4 x5_2 t366 t370 x57_4 bt377.1 t359 x57_4 (decide ((rd bt377.1 0) ≥ (t366.length : Int)))) else (none)) else (chancerykeep1_DeltaAxisAgrees.j4 k4 x5_2 t366 t370 x57_4 bt377.1 t359 x57_4 true)) else (chancerykeep1_DeltaAxisAgrees.j4 k4 x5_2 t366 t370 x57_4 bt377.1 t359 x57_4 true))) = some r := by first | (rw [hy374]; with_reducible exact H) | (have H2_ := (Option.bind_some _ _).symm.trans H; rw [hy374]; with_reducible exact H2_) | (have H2_ := (Option.bind_some _ _).symm.trans H; with_reducible exact H2_) | with_reducible exact H | (rw [hy374]; exact H) | exact H
             have Ny374 := Aside0.mk hy374
             clear hy374
             replace H := Option.bind_eq_some_iff.mp H
             obtain ⟨⟨t377, t378⟩, A270, H⟩ := H
             replace H : (if t378 = 0 then (if (t377.length : Int) = 1 then (if 0 < (t377.length : Int) then (chancerykeep1_DeltaAxisAgrees.j4 k4 x5_2 t366 t370 x57_4 t377 t359 x57_4 (decide ((rd t377 0) ≥ (t366.length : Int)))) else (none)) else (chancerykeep1_DeltaAxisAgrees.j4 k4 x5_2 t366 t370 x57_4 t377 t359 x57_4 true)) else (chancerykeep1_DeltaAxisAgrees.j4 k4 x5_2 t366 t370 x57_4 t377 t359 x57_4 true)) = some r := H
             have A27 := Aside0.mk A270
             clear A270
             have HC28 := Aside0.mk H
             clear H
             go_upto_region 19 with (first | ((with_reducible refine gate_dst (N := 63) rfl ?_); (try (refine gate_guard (by rfl) ?_; dsimp only)); refine Kd.R_lit (Kd.int .i64) _ 3 ?hg (N := 63) ?hd (xs := ([x57_4] : List Int)) (inner := [.int .i64 x57_4]) (ok := fun _ => True) (okp := fun _ => True) ?hr ?hp (fun _ hk => hk) trivial (Below.refl _ _) (Nat.le_refl _) (by simp) ?_; (case hd => rfl); (case hg => rfl); (case hr => first | (go_simp; done) | (go_simp; rfl)); (case hp => exact (Reps.one (show Kd.M (Kd.int .i64) _ _ _ x57_4 [.int .i64 x57_4] from rfl) (Reps.none _ _))); intro v375 w29 ho30 hb hg_ hnew_; clear hg_ hnew_; (first | rw [← Ny374.out] at ho30 | (simp only [Int.reduceToNat] at ho30; rw [← Ny374.out] at ho30)); have n0_ := Aside0.mk (Kd.N_elder' (by (with_reducible repeat (first | apply Kd.N_alloc | apply Kd.N_drewN | apply Kd.N_drew)); exact HO_5.out) (Kd.R_base ho30) hb); have n1_ := Aside0.mk (Kd.N_elder' (by (with_reducible repeat (first | apply Kd.N_alloc | apply Kd.N_drewN | apply Kd.N_drew)); exact HO_8.out) (Kd.R_base ho30) hb); have n2_ := Aside0.mk (Kd.R_below (by (with_reducible repeat (first | apply Kd.R_alloc | apply Kd.R_drewN | apply Kd.R_drew)); exact HO_10.out) hb); have n3_ := Aside0.mk (Kd.R_lower ho30 (below_size (by with_reducible repeat first | exact HB.out | apply below_alloc | apply pw_below_drewN | apply below_drew1))); have n4_ := Aside0.mk (below_step (by with_reducible repeat first | exact HB.out | apply below_alloc | apply pw_below_drewN | apply below_drew1) hb); clear HO_5; clear HO_8; clear HO_10; clear HB; have HO_5 := n0_; have HO_8 := n1_; have HO_10 := n2_; have HO376 := n3_; have HB := n4_; clear n0_ n1_ n2_ n3_ n4_; clear hb ho30; obtain ⟨Ao31, co31, eo31⟩ := Kd.R_slice HO_10.out; subst eo31; obtain ⟨Ao32, co32, eo32⟩ := Kd.R_slice HO376.out; subst eo32) | (go_at_call 33; (with_reducible refine (axis_Apply.calls k4 _ _ t370 _ _ y374 t377 t378 _ ?side1 ?side2 ?side3 ?side4 A27.out).mono ?_); (case side1 => repeat (first | exact (Kd.R_reads' HO_10.out).2.2 | (with_reducible refine Kd.C_alloc ?_ _) | (with_reducible refine Kd.C_drewN ?_ _) | (with_reducible refine Kd.C_drew ?_))); (case side2 => exact (Kd.R_reads' HO_10.out).2.1); (case side3 => repeat (first | exact (Kd.R_reads' HO376.out).2.2 | (with_reducible refine Kd.C_alloc ?_ _) | (with_reducible refine Kd.C_drewN ?_ _) | (with_reducible refine Kd.C_drew ?_))); (case side4 => exact (Kd.R_reads' HO376.out).2.1); rintro e w33 ⟨v379, rfl, ho0, hb⟩; have n0_ := Aside0.mk (Kd.N_elder' (by (with_reducible repeat (first | apply Kd.N_alloc | apply Kd.N_drewN | apply Kd.N_drew)); exact HO_5.out) (Kd.R_base ho0) hb); have n1_ := Aside0.mk (Kd.N_elder' (by (with_reducible repeat (first | apply Kd.N_alloc | apply Kd.N_drewN | apply Kd.N_drew)); exact HO_8.out) (Kd.R_base ho0) hb); have n2_ := Aside0.mk (Kd.R_below (by (with_reducible repeat (first | apply Kd.R_alloc | apply Kd.R_drewN | apply Kd.R_drew)); exact HO_10.out) hb); have n3_ := Aside0.mk (Kd.R_elder' (by (with_reducible repeat (first | apply Kd.R_alloc | apply Kd.R_drewN | apply Kd.R_drew)); exact HO376.out) (Kd.R_base ho0) hb); have n4_ := Aside0.mk (Kd.R_lower (Kd.R_new' ho0 (Kd.R_lt (by (with_reducible repeat (first | apply Kd.R_alloc | apply Kd.R_drewN | apply Kd.R_drew)); exact HO376.out))) (below_size (by with_reducible repeat first | exact HB.out | apply below_alloc | apply pw_below_drewN | apply below_drew1))); have n5_ := Aside0.mk (below_step (by with_reducible repeat first | exact HB.out | apply below_alloc | apply pw_below_drewN | apply below_drew1) hb); clear HO_5; clear HO_8; clear HO_10; clear HO376; clear HB; have HO_5 := n0_; have HO_8 := n1_; have HO_10 := n2_; have HO376 := n3_; have HO380 := n4_; have HB := n5_; clear n0_ n1_ n2_ n3_ n4_ n5_; (try clear hb); (try clear hb2); (try clear hk); (try clear hi); (try clear ho0)))
             repeat (go_quiet (first | ((with_reducible refine gate_dst (N := 63) rfl ?_); (try (refine gate_guard (by rfl) ?_; dsimp only)); refine Kd.R_lit (Kd.int .i64) _ 3 ?hg (N := 63) ?hd (xs := ([x57_4] : List Int)) (inner := [.int .i64 x57_4]) (ok := fun _ => True) (okp := fun _ => True) ?hr ?hp (fun _ hk => hk) trivial (Below.refl _ _) (Nat.le_refl _) (by simp) ?_; (case hd => rfl); (case hg => rfl); (case hr => first | (go_simp; done) | (go_simp; rfl)); (case hp => exact (Reps.one (show Kd.M (Kd.int .i64) _ _ _ x57_4 [.int .i64 x57_4] from rfl) (Reps.none _ _))); intro v375 w29 ho30 hb hg_ hnew_; clear hg_ hnew_; (first | rw [← Ny374.out] at ho30 | (simp only [Int.reduceToNat] at ho30; rw [← Ny374.out] at ho30)); have n0_ := Aside0.mk (Kd.N_elder' (by (with_reducible repeat (first | apply Kd.N_alloc | apply Kd.N_drewN | apply Kd.N_drew)); exact HO_5.out) (Kd.R_base ho30) hb); have n1_ := Aside0.mk (Kd.N_elder' (by (with_reducible repeat (first | apply Kd.N_alloc | apply Kd.N_drewN | apply Kd.N_drew)); exact HO_8.out) (Kd.R_base ho30) hb); have n2_ := Aside0.mk (Kd.R_below (by (with_reducible repeat (first | apply Kd.R_alloc | apply Kd.R_drewN | apply Kd.R_drew)); exact HO_10.out) hb); have n3_ := Aside0.mk (Kd.R_lower ho30 (below_size (by with_reducible repeat first | exact HB.out | apply below_alloc | apply pw_below_drewN | apply below_drew1))); have n4_ := Aside0.mk (below_step (by with_reducible repeat first | exact HB.out | apply below_alloc | apply pw_below_drewN | apply below_drew1) hb); clear HO_5; clear HO_8; clear HO_10; clear HB; have HO_5 := n0_; have HO_8 := n1_; have HO_10 := n2_; have HO376 := n3_; have HB := n4_; clear n0_ n1_ n2_ n3_ n4_; clear hb ho30; obtain ⟨Ao31, co31, eo31⟩ := Kd.R_slice HO_10.out; subst eo31; obtain ⟨Ao32, co32, eo32⟩ := Kd.R_slice HO376.out; subst eo32) | (go_at_call 33; (with_reducible refine (axis_Apply.calls k4 _ _ t370 _ _ y374 t377 t378 _ ?side1 ?side2 ?side3 ?side4 A27.out).mono ?_); (case side1 => repeat (first | exact (Kd.R_reads' HO_10.out).2.2 | (with_reducible refine Kd.C_alloc ?_ _) | (with_reducible refine Kd.C_drewN ?_ _) | (with_reducible refine Kd.C_drew ?_))); (case side2 => exact (Kd.R_reads' HO_10.out).2.1); (case side3 => repeat (first | exact (Kd.R_reads' HO376.out).2.2 | (with_reducible refine Kd.C_alloc ?_ _) | (with_reducible refine Kd.C_drewN ?_ _) | (with_reducible refine Kd.C_drew ?_))); (case side4 => exact (Kd.R_reads' HO376.out).2.1); rintro e w33 ⟨v379, rfl, ho0, hb⟩; have n0_ := Aside0.mk (Kd.N_elder' (by (with_reducible repeat (first | apply Kd.N_alloc | apply Kd.N_drewN | apply Kd.N_drew)); exact HO_5.out) (Kd.R_base ho0) hb); have n1_ := Aside0.mk (Kd.N_elder' (by (with_reducible repeat (first | apply Kd.N_alloc | apply Kd.N_drewN | apply Kd.N_drew)); exact HO_8.out) (Kd.R_base ho0) hb); have n2_ := Aside0.mk (Kd.R_below (by (with_reducible repeat (first | apply Kd.R_alloc | apply Kd.R_drewN | apply Kd.R_drew)); exact HO_10.out) hb); have n3_ := Aside0.mk (Kd.R_elder' (by (with_reducible repeat (first | apply Kd.R_alloc | apply Kd.R_drewN | apply Kd.R_drew)); exact HO376.out) (Kd.R_base ho0) hb); have n4_ := Aside0.mk (Kd.R_lower (Kd.R_new' ho0 (Kd.R_lt (by (with_reducible repeat (first | apply Kd.R_alloc | apply Kd.R_drewN | apply Kd.R_drew)); exact HO376.out))) (below_size (by with_reducible repeat first | exact HB.out | apply below_alloc | apply pw_below_drewN | apply below_drew1))); have n5_ := Aside0.mk (below_step (by with_reducible repeat first | exact HB.out | apply below_alloc | apply pw_below_drewN | apply below_drew1) hb); clear HO_5; clear HO_8; clear HO_10; clear HO376; clear HB; have HO_5 := n0_; have HO_8 := n1_; have HO_10 := n2_; have HO376 := n3_; have HO380 := n4_; have HB := n5_; clear n0_ n1_ n2_ n3_ n4_ n5_; (try clear hb); (try clear hb2); (try clear hk); (try clear hi); (try clear ho0))); go_upto_region 19 with (first | ((with_reducible refine gate_dst (N := 63) rfl ?_); (try (refine gate_guard (by rfl) ?_; dsimp only)); refine Kd.R_lit (Kd.int .i64) _ 3 ?hg (N := 63) ?hd (xs := ([x57_4] : List Int)) (inner := [.int .i64 x57_4]) (ok := fun _ => True) (okp := fun _ => True) ?hr ?hp (fun _ hk => hk) trivial (Below.refl _ _) (Nat.le_refl _) (by simp) ?_; (case hd => rfl); (case hg => rfl); (case hr => first | (go_simp; done) | (go_simp; rfl)); (case hp => exact (Reps.one (show Kd.M (Kd.int .i64) _ _ _ x57_4 [.int .i64 x57_4] from rfl) (Reps.none _ _))); intro v375 w29 ho30 hb hg_ hnew_; clear hg_ hnew_; (first | rw [← Ny374.out] at ho30 | (simp only [Int.reduceToNat] at ho30; rw [← Ny374.out] at ho30)); have n0_ := Aside0.mk (Kd.N_elder' (by (with_reducible repeat (first | apply Kd.N_alloc | apply Kd.N_drewN | apply Kd.N_drew)); exact HO_5.out) (Kd.R_base ho30) hb); have n1_ := Aside0.mk (Kd.N_elder' (by (with_reducible repeat (first | apply Kd.N_alloc | apply Kd.N_drewN | apply Kd.N_drew)); exact HO_8.out) (Kd.R_base ho30) hb); have n2_ := Aside0.mk (Kd.R_below (by (with_reducible repeat (first | apply Kd.R_alloc | apply Kd.R_drewN | apply Kd.R_drew)); exact HO_10.out) hb); have n3_ := Aside0.mk (Kd.R_lower ho30 (below_size (by with_reducible repeat first | exact HB.out | apply below_alloc | apply pw_below_drewN | apply below_drew1))); have n4_ := Aside0.mk (below_step (by with_reducible repeat first | exact HB.out | apply below_alloc | apply pw_below_drewN | apply below_drew1) hb); clear HO_5; clear HO_8; clear HO_10; clear HB; have HO_5 := n0_; have HO_8 := n1_; have HO_10 := n2_; have HO376 := n3_; have HB := n4_; clear n0_ n1_ n2_ n3_ n4_; clear hb ho30; obtain ⟨Ao31, co31, eo31⟩ := Kd.R_slice HO_10.out; subst eo31; obtain ⟨Ao32, co32, eo32⟩ := Kd.R_slice HO376.out; subst eo32) | (go_at_call 33; (with_reducible refine (axis_Apply.calls k4 _ _ t370 _ _ y374 t377 t378 _ ?side1 ?side2 ?side3 ?side4 A27.out).mono ?_); (case side1 => repeat (first | exact (Kd.R_reads' HO_10.out).2.2 | (with_reducible refine Kd.C_alloc ?_ _) | (with_reducible refine Kd.C_drewN ?_ _) | (with_reducible refine Kd.C_drew ?_))); (case side2 => exact (Kd.R_reads' HO_10.out).2.1); (case side3 => repeat (first | exact (Kd.R_reads' HO376.out).2.2 | (with_reducible refine Kd.C_alloc ?_ _) | (with_reducible refine Kd.C_drewN ?_ _) | (with_reducible refine Kd.C_drew ?_))); (case side4 => exact (Kd.R_reads' HO376.out).2.1); rintro e w33 ⟨v379, rfl, ho0, hb⟩; have n0_ := Aside0.mk (Kd.N_elder' (by (with_reducible repeat (first | apply Kd.N_alloc | apply Kd.N_drewN | apply Kd.N_drew)); exact HO_5.out) (Kd.R_base ho0) hb); have n1_ := Aside0.mk (Kd.N_elder' (by (with_reducible repeat (first | apply Kd.N_alloc | apply Kd.N_drewN | apply Kd.N_drew)); exact HO_8.out) (Kd.R_base ho0) hb); have n2_ := Aside0.mk (Kd.R_below (by (with_reducible repeat (first | apply Kd.R_alloc | apply Kd.R_drewN | apply Kd.R_drew)); exact HO_10.out) hb); have n3_ := Aside0.mk (Kd.R_elder' (by (with_reducible repeat (first | apply Kd.R_alloc | apply Kd.R_drewN | apply Kd.R_drew)); exact HO376.out) (Kd.R_base ho0) hb); have n4_ := Aside0.mk (Kd.R_lower (Kd.R_new' ho0 (Kd.R_lt (by (with_reducible repeat (first | apply Kd.R_alloc | apply Kd.R_drewN | apply Kd.R_drew)); exact HO376.out))) (below_size (by with_reducible repeat first | exact HB.out | apply below_alloc | apply pw_below_drewN | apply below_drew1))); have n5_ := Aside0.mk (below_step (by with_reducible repeat first | exact HB.out | apply below_alloc | apply pw_below_drewN | apply below_drew1) hb); clear HO_5; clear HO_8; clear HO_10; clear HO376; clear HB; have HO_5 := n0_; have HO_8 := n1_; have HO_10 := n2_; have HO376 := n3_; have HO380 := n4_; have HB := n5_; clear n0_ n1_ n2_ n3_ n4_ n5_; (try clear hb); (try clear hb2); (try clear hk); (try clear hi); (try clear ho0))))
             (try simp only [Act.put, List.setIfInBounds_toArray, List.set_cons_zero, List.set_cons_succ])
             go_cut [81] (fun v81 wc => ∃ (kq : Nat) (x81_27 : Bool), v81 = .bool x81_27 ∧ Aside0 (chancerykeep1_DeltaAxisAgrees.j4 kq x5_2 t366 t370 x57_4 t377 t359 x57_4 x81_27 = some r) ∧ Aside0 (kq ≤ k4) ∧ Aside0 (Kd.N k26 26 wc w.heap.size (fun k_ => some k_ ≠ (v367 : Value).ownBlock ∧ some k_ ≠ ((.slice Ao31 t370.length co31) : Value).ownBlock ∧ some k_ ≠ (v379 : Value).ownBlock) (.slice Ao20 x5_2.length co20) x5_2) ∧ Aside0 (Kd.N k26 26 wc w.heap.size (fun k_ => some k_ ≠ ((.slice Ao31 t370.length co31) : Value).ownBlock ∧ some k_ ≠ (v379 : Value).ownBlock) v367 t366) ∧ Aside0 (Kd.R k121 121 wc w.heap.size (fun _ => True) (.slice Ao31 t370.length co31) t370) ∧ Aside0 (Kd.R (Kd.int .i64) 3 wc w.heap.size (fun _ => True) v379 t377) ∧ Aside0 (Below w.heap.size w wc))
             case first =>
              have H := HC28.out
              clear HC28
              by_cases c34 : t378 = 0
              ·rw [if_pos c34] at H
               have c34b0 : (t378 == 0) = true := beq_iff_eq.mpr c34
               have c34b1 : (t378 != 0) = false := bne_eq_false_iff_eq.mpr c34
               clear c34
               (first | rw [c34b0] | (simp only [i64_w, i32_w]; rw [c34b0]) | skip)
               by_cases c35 : (t377.length : Int) = 1
               ·rw [if_pos c35] at H
                have c35b0 : ((t377.length : Int) == 1) = true := beq_iff_eq.mpr c35
                have c35b1 : ((t377.length : Int) != 1) = false := bne_eq_false_iff_eq.mpr c35
                clear c35
                by_cases c36 : 0 < (t377.length : Int)
                ·rw [if_pos c36] at H
                 have c36b0 : decide (0 < (t377.length : Int)) = true := decide_eq_true c36
                 have c36b1 : decide (0 < t377.length) = true := decide_eq_true (by omega)
                 clear c36
                 have H' := Aside0.mk H
                 clear H
                 obtain ⟨Ao37, co37, eo37⟩ := Kd.R_slice HO380.out
                 subst eo37
                 have p381 : 0 ≤ (0 : Int) := (by omega)
                 have q381 : 0 < (t377.length : Int) := of_decide_eq_true (by assumption)
                 obtain ⟨ad381, e381, hx381_0⟩ := Kd.at_int (Kd.R_reads' HO380.out).2.2 0 p381 q381
                 cases e381
                 have qi381 : (0 < t377.length) = True := eq_true (by omega)
                 (try rw [show ((0 : Int)).toNat = 0 from rfl] at hx381_0)
                 (try rw [Addr.add_zero'] at hx381_0)
                 replace p381 := eq_true p381
                 replace q381 := eq_true q381
                 obtain ⟨Ao38, co38, eo38⟩ := Kd.N_slice HO_8.out
                 subst eo38
                 go_wp2
                 repeat (go_quiet (fail); try go_wp2)
                 go_meet
                 case rel => exact ⟨_, (decide ((rd t377 0) ≥ (t366.length : Int))), (by first | rfl | (simp; done) | (simp [*]; done)), H', ⟨by have := HJ2.out; have := HK2.out; have := HJ17.out; have := HK4.out; first | omega | exact Nat.le_refl _⟩, ⟨by (with_reducible repeat (first | apply Kd.N_alloc | apply Kd.N_drewN | apply Kd.N_drew)); exact Kd.N_mono HO_5.out (fun _ hk => ⟨hk.1.1.1, ⟨hk.1.1.2, hk.2⟩⟩)⟩, ⟨by (with_reducible repeat (first | apply Kd.N_alloc | apply Kd.N_drewN | apply Kd.N_drew)); exact Kd.N_mono HO_8.out (fun _ hk => ⟨hk.1.1, hk.2⟩)⟩, ⟨by (with_reducible repeat (first | apply Kd.R_alloc | apply Kd.R_drewN | apply Kd.R_drew)); exact HO_10.out⟩, ⟨by (with_reducible repeat (first | apply Kd.R_alloc | apply Kd.R_drewN | apply Kd.R_drew)); exact Kd.R_mono HO380.out (fun _ hk => trivial)⟩, ⟨by repeat (first | (with_reducible first | exact HB.out | apply below_alloc | apply pw_below_drewN | apply below_drew1) | exact HB.out)⟩⟩
                ·rw [if_neg c36] at H
                 exact absurd H (by simp)
               ·rw [if_neg c35] at H
                have c35b0 : ((t377.length : Int) == 1) = false := beq_eq_false_iff_ne.mpr c35
                have c35b1 : ((t377.length : Int) != 1) = true := bne_iff_ne.mpr c35
                have H' := Aside0.mk H
                clear H
                obtain ⟨Ao39, co39, eo39⟩ := Kd.R_slice HO380.out
                subst eo39
                go_wp2
                repeat (go_quiet (fail); try go_wp2)
                go_meet
                case rel => exact ⟨_, (true), (by first | rfl | (simp; done) | (simp [*]; done)), H', ⟨by have := HJ2.out; have := HK2.out; have := HJ17.out; have := HK4.out; first | omega | exact Nat.le_refl _⟩, ⟨by (with_reducible repeat (first | apply Kd.N_alloc | apply Kd.N_drewN | apply Kd.N_drew)); exact Kd.N_mono HO_5.out (fun _ hk => ⟨hk.1.1.1, ⟨hk.1.1.2, hk.2⟩⟩)⟩, ⟨by (with_reducible repeat (first | apply Kd.N_alloc | apply Kd.N_drewN | apply Kd.N_drew)); exact Kd.N_mono HO_8.out (fun _ hk => ⟨hk.1.1, hk.2⟩)⟩, ⟨by (with_reducible repeat (first | apply Kd.R_alloc | apply Kd.R_drewN | apply Kd.R_drew)); exact HO_10.out⟩, ⟨by (with_reducible repeat (first | apply Kd.R_alloc | apply Kd.R_drewN | apply Kd.R_drew)); exact Kd.R_mono HO380.out (fun _ hk => trivial)⟩, ⟨by repeat (first | (with_reducible first | exact HB.out | apply below_alloc | apply pw_below_drewN | apply below_drew1) | exact HB.out)⟩⟩
              ·rw [if_neg c34] at H
               have c34b0 : (t378 == 0) = false := beq_eq_false_iff_ne.mpr c34
               have c34b1 : (t378 != 0) = true := bne_iff_ne.mpr c34
               (first | rw [c34b0] | (simp only [i64_w, i32_w]; rw [c34b0]) | skip)
               have H' := Aside0.mk H
               clear H
               go_wp2
               repeat (go_quiet (fail); try go_wp2)
               go_meet
               case rel => exact ⟨_, (true), (by first | rfl | (simp; done) | (simp [*]; done)), H', ⟨by have := HJ2.out; have := HK2.out; have := HJ17.out; have := HK4.out; first | omega | exact Nat.le_refl _⟩, ⟨by (with_reducible repeat (first | apply Kd.N_alloc | apply Kd.N_drewN | apply Kd.N_drew)); exact Kd.N_mono HO_5.out (fun _ hk => ⟨hk.1.1.1, ⟨hk.1.1.2, hk.2⟩⟩)⟩, ⟨by (with_reducible repeat (first | apply Kd.N_alloc | apply Kd.N_drewN | apply Kd.N_drew)); exact Kd.N_mono HO_8.out (fun _ hk => ⟨hk.1.1, hk.2⟩)⟩, ⟨by (with_reducible repeat (first | apply Kd.R_alloc | apply Kd.R_drewN | apply Kd.R_drew)); exact HO_10.out⟩, ⟨by (with_reducible repeat (first | apply Kd.R_alloc | apply Kd.R_drewN | apply Kd.R_drew)); exact Kd.R_mono HO380.out (fun _ hk => trivial)⟩, ⟨by repeat (first | (with_reducible first | exact HB.out | apply below_alloc | apply pw_below_drewN | apply below_drew1) | exact HB.out)⟩⟩
             case rest =>
              clear HC28
              try clear c1
              try clear p1
              try clear c2
              try clear p2
              try clear c3
              try clear p3
              try clear q3
              try clear hx3
              try clear qi3
              try clear c5
              try clear p6
              try clear c7
              try clear c10
              try clear c12
              try clear c12b0
              try clear c13
              try clear c24
              try clear c24b0
              try clear c24b1
              try clear c25
              try clear c26
              try clear c26b0
              try clear c34
              try clear c34b0
              try clear c34b1
              try clear c35
              try clear c35b0
              try clear c35b1
              try clear c36
              try clear c36b0
              try clear c36b1
              try clear p38
              try clear q38
              try clear hx38
              try clear qi38
              try clear hx381_0
              try clear p1
              try clear p2
              try clear p381
              try clear p6
              try clear q381
              obtain ⟨kq, x81_27, rfl, HA, HJ27, HO_5, HO_8, HO_10, HO_13, HB⟩ := hcut
              cases kq with
              | zero => exact absurd HA.out (by simp [chancerykeep1_DeltaAxisAgrees.j4])
              | succ kj27 =>
               have H := HA.out
               clear HA
               simp only [chancerykeep1_DeltaAxisAgrees.j4] at H
               by_cases c40 : x81_27 = true
               ·subst c40
                have H1 : (some false) = some r := by rw [if_pos rfl] at H; exact H
                clear H
                have H := H1
                clear H1
                obtain rfl := Option.some.inj H
                go_wp2
                repeat (go_quiet (fail); try go_wp2)
                go_ret
                exact ⟨by first | rfl | (simp [errW_none, errW_some] <;> rfl) | (simp [*, errW_none, errW_some] <;> rfl), by repeat (first | (with_reducible first | exact HB.out | apply below_alloc | apply pw_below_drewN | apply below_drew1) | exact HB.out)⟩
               ·replace c40 := Bool.eq_false_iff.mpr c40
                subst c40
                have H1 : (chancerykeep1_DeltaAxisAgrees.l2 kj27 x5_2 t366 t370 x57_4 t377 false t359 x57_4 (t366.length : Int) 0) = some r := by rw [if_neg (show ¬ (false = true) by decide)] at H; exact H
                clear H
                have H := H1
                clear H1
                have H' := Aside0.mk H
                clear H
                obtain ⟨Ao41, co41, eo41⟩ := Kd.N_slice HO_8.out
                subst eo41
                go_wp2
                repeat (go_quiet (fail); try go_wp2)
                go_loopg [15, 84] kj27 (fun kq v15 v84 w' => ∃ (x15_6 : Bool) (x84_6 : Int), v15 = .bool x15_6 ∧ v84 = .int .i64 x84_6 ∧ Aside0 (chancerykeep1_DeltaAxisAgrees.l2 kq x5_2 t366 t370 x57_4 t377 x15_6 t359 x57_4 (t366.length : Int) x84_6 = some r) ∧ Aside0 (kq ≤ kj27) ∧ Aside0 (Kd.N k26 26 w' w.heap.size (fun k_ => some k_ ≠ ((.slice Ao41 t366.length co41) : Value).ownBlock ∧ some k_ ≠ ((.slice Ao31 t370.length co31) : Value).ownBlock ∧ some k_ ≠ (v379 : Value).ownBlock) (.slice Ao20 x5_2.length co20) x5_2) ∧ Aside0 (Kd.N k26 26 w' w.heap.size (fun k_ => some k_ ≠ ((.slice Ao31 t370.length co31) : Value).ownBlock ∧ some k_ ≠ (v379 : Value).ownBlock) (.slice Ao41 t366.length co41) t366) ∧ Aside0 (Kd.R k121 121 w' w.heap.size (fun _ => True) (.slice Ao31 t370.length co31) t370) ∧ Aside0 (Kd.R (Kd.int .i64) 3 w' w.heap.size (fun _ => True) v379 t377) ∧ Aside0 (Below w.heap.size w w'))
                case atStart => exact ⟨(false), (0), (by first | rfl | (simp; done) | (simp [*]; done)), (by first | rfl | (simp; done) | (simp [*]; done)), H', ⟨Nat.le_refl _⟩, ⟨by (with_reducible repeat (first | apply Kd.N_alloc | apply Kd.N_drewN | apply Kd.N_drew)); exact HO_5.out⟩, ⟨by (with_reducible repeat (first | apply Kd.N_alloc | apply Kd.N_drewN | apply Kd.N_drew)); exact HO_8.out⟩, ⟨by (with_reducible repeat (first | apply Kd.R_alloc | apply Kd.R_drewN | apply Kd.R_drew)); exact HO_10.out⟩, ⟨by (with_reducible repeat (first | apply Kd.R_alloc | apply Kd.R_drewN | apply Kd.R_drew)); exact HO_13.out⟩, ⟨by repeat (first | (with_reducible first | exact HB.out | apply below_alloc | apply pw_below_drewN | apply below_drew1) | exact HB.out)⟩⟩
                case round =>
                 clear H'
                 try clear c1
                 try clear p1
                 try clear c2
                 try clear p2
                 try clear c3
                 try clear p3
                 try clear q3
                 try clear hx3
                 try clear qi3
                 try clear c4
                 try clear c5
                 try clear p6
                 try clear c7
                 try clear c10
                 try clear c12
                 try clear c12b0
                 try clear c13
                 try clear c24
                 try clear c24b0
                 try clear c24b1
                 try clear c25
                 try clear c26
                 try clear c26b0
                 try clear c34
                 try clear c34b0
                 try clear c34b1
                 try clear c35
                 try clear c35b0
                 try clear c35b1
                 try clear c36
                 try clear c36b0
                 try clear c36b1
                 try clear p38
                 try clear q38
                 try clear hx38
                 try clear qi38
                 try clear c40
                 try clear hx381_0
                 try clear p1
                 try clear p2
                 try clear p3
                 try clear p38
                 try clear p381
                 try clear p6
                 try clear q3
                 try clear q38
                 try clear q381
                 obtain ⟨x15_6, x84_6, rfl, rfl, HA, HK6, HO_5, HO_8, HO_10, HO_13, HB⟩ := hrel
                 cases gk with
                 | zero => exact absurd HA.out (by simp [chancerykeep1_DeltaAxisAgrees.l2])
                 | succ k6 =>
                  have H := HA.out
                  clear HA
                  simp only [chancerykeep1_DeltaAxisAgrees.l2] at H
                  by_cases c42 : x84_6 < (t366.length : Int)
                  ·rw [if_pos c42] at H
                   have c42b0 : decide (x84_6 < (t366.length : Int)) = true := decide_eq_true c42
                   clear c42
                   by_cases c43 : x15_6 = true
                   ·subst c43
                    have H1 : (chancerykeep1_DeltaAxisAgrees.l2 k6 x5_2 t366 t370 x57_4 t377 true t359 x57_4 (t366.length : Int) (wrap64 (x84_6 + 1))) = some r := by rw [if_pos rfl] at H; exact H
                    clear H
                    have H := H1
                    clear H1
                    have H' := Aside0.mk H
                    clear H
                    go_wp2
                    repeat (go_quiet (fail); try go_wp2)
                    go_roundg k6
                    case measure => have := HJ2.out; have := HK2.out; have := HJ17.out; have := HK4.out; have := HJ27.out; have := HK6.out; omega
                    case rel => exact ⟨(true), (wrap64 (x84_6 + 1)), (by first | rfl | (simp; done) | (simp [*]; done)), (by first | rfl | (simp; done) | (simp [*]; done)), H', ⟨by have := HJ2.out; have := HK2.out; have := HJ17.out; have := HK4.out; have := HJ27.out; have := HK6.out; omega⟩, ⟨by (with_reducible repeat (first | apply Kd.N_alloc | apply Kd.N_drewN | apply Kd.N_drew)); exact HO_5.out⟩, ⟨by (with_reducible repeat (first | apply Kd.N_alloc | apply Kd.N_drewN | apply Kd.N_drew)); exact HO_8.out⟩, ⟨by (with_reducible repeat (first | apply Kd.R_alloc | apply Kd.R_drewN | apply Kd.R_drew)); exact HO_10.out⟩, ⟨by (with_reducible repeat (first | apply Kd.R_alloc | apply Kd.R_drewN | apply Kd.R_drew)); exact HO_13.out⟩, ⟨by repeat (first | (with_reducible first | exact HB.out | apply below_alloc | apply pw_below_drewN | apply below_drew1) | exact HB.out)⟩⟩
                   ·replace c43 := Bool.eq_false_iff.mpr c43
                    subst c43
                    have H1 : (if 0 ≤ x84_6 then (if x84_6 < (t366.length : Int) then (if 0 ≤ x57_4 then (if x57_4 < (x5_2.length : Int) then (if ((rd_T26 t366 x84_6).f0) = ((rd_T26 x5_2 x57_4).f0) then (if 0 < (t377.length : Int) then (chancerykeep1_DeltaAxisAgrees.l2 k6 x5_2 t366 t370 x57_4 t377 (x84_6 == (rd t377 0)) t359 x57_4 (t366.length : Int) (wrap64 (x84_6 + 1))) else (none)) else (chancerykeep1_DeltaAxisAgrees.l2 k6 x5_2 t366 t370 x57_4 t377 false t359 x57_4 (t366.length : Int) (wrap64 (x84_6 + 1)))) else (none)) else (none)) else (none)) else (none)) = some r := by rw [if_neg (show ¬ (false = true) by decide)] at H; exact H
                    clear H
                    have H := H1
                    clear H1
                    by_cases c44 : 0 ≤ x84_6
                    ·rw [if_pos c44] at H
                     have c44b0 : decide (0 ≤ x84_6) = true := decide_eq_true c44
                     clear c44
                     by_cases c45 : x84_6 < (t366.length : Int)
                     ·rw [if_pos c45] at H
                      have c45b0 : decide (x84_6 < (t366.length : Int)) = true := decide_eq_true c45
                      clear c45
                      by_cases c46 : 0 ≤ x57_4
                      ·rw [if_pos c46] at H
                       have c46b0 : decide (0 ≤ x57_4) = true := decide_eq_true c46
                       clear c46
                       by_cases c47 : x57_4 < (x5_2.length : Int)
                       ·rw [if_pos c47] at H
                        have c47b0 : decide (x57_4 < (x5_2.length : Int)) = true := decide_eq_true c47
                        clear c47
                        by_cases c48 : ((rd_T26 t366 x84_6).f0) = ((rd_T26 x5_2 x57_4).f0)
                        ·rw [if_pos c48] at H
                         have c48b0 : (((rd_T26 t366 x84_6).f0) == ((rd_T26 x5_2 x57_4).f0)) = true := beq_iff_eq.mpr c48
                         have c48b1 : (((rd_T26 t366 x84_6).f0) != ((rd_T26 x5_2 x57_4).f0)) = false := bne_eq_false_iff_eq.mpr c48
                         clear c48
                         by_cases c49 : 0 < (t377.length : Int)
                         ·rw [if_pos c49] at H
                          have c49b0 : decide (0 < (t377.length : Int)) = true := decide_eq_true c49
                          have c49b1 : decide (0 < t377.length) = true := decide_eq_true (by omega)
                          clear c49
                          have H' := Aside0.mk H
                          clear H
                          have p382 : 0 ≤ (x84_6 : Int) := of_decide_eq_true (by assumption)
                          have q382 : x84_6 < (t366.length : Int) := of_decide_eq_true (by assumption)
                          obtain ⟨ad382, A382_2, c382_2, e382, hx382_0, hx382_1, hx382_2, hl382_2, hi382_2⟩ := at_T26 (Kd.N_reads' HO_8.out).2.2 x84_6 p382 q382
                          cases e382
                          obtain ⟨ce382, hce382, hMe382, hcc382⟩ := Kd.N_get HO_8.out z26 x84_6 p382 (by first | exact q382 | exact of_decide_eq_true (by assumption) | (have e_ := (Kd.N_reads' HO_8.out).1; omega))
                          obtain ⟨ua382_2, uc382_2, rfl, ul382_2, ge382_2⟩ := k26_openF hMe382
                          have hv382_2 := hcc382 2 _ rfl
                          rw [add_field _ _ 2 (by omega)] at hv382_2
                          replace hv382_2 := Option.some.inj (hv382_2.symm.trans hx382_2)
                          injection hv382_2 with hva_ hvn_ hvc_
                          rw [hva_] at ge382_2
                          rw [hvc_] at ul382_2
                          have HL382_2 := Aside0.mk (show Kd.V k91 91 _ w.heap.size _ _ ((rd_T26 t366 x84_6).f2) from Kd.V_mk ul382_2 ge382_2)
                          clear hva_ hvn_ hvc_ ge382_2 ul382_2
                          clear hcc382 hce382
                          have HR382_2 := Aside0.mk hi382_2
                          have HC382_2 := Aside0.mk hl382_2
                          clear hi382_2 hl382_2
                          replace p382 := eq_true p382
                          replace q382 := eq_true q382
                          have p383 : 0 ≤ (x57_4 : Int) := of_decide_eq_true (by assumption)
                          have q383 : x57_4 < (x5_2.length : Int) := of_decide_eq_true (by assumption)
                          obtain ⟨ad383, A383_2, c383_2, e383, hx383_0, hx383_1, hx383_2, hl383_2, hi383_2⟩ := at_T26 (Kd.N_reads' HO_5.out).2.2 x57_4 p383 q383
                          cases e383
                          obtain ⟨ce383, hce383, hMe383, hcc383⟩ := Kd.N_get HO_5.out z26 x57_4 p383 (by first | exact q383 | exact of_decide_eq_true (by assumption) | (have e_ := (Kd.N_reads' HO_5.out).1; omega))
                          obtain ⟨ua383_2, uc383_2, rfl, ul383_2, ge383_2⟩ := k26_openF hMe383
                          have hv383_2 := hcc383 2 _ rfl
                          rw [add_field _ _ 2 (by omega)] at hv383_2
                          replace hv383_2 := Option.some.inj (hv383_2.symm.trans hx383_2)
                          injection hv383_2 with hva_ hvn_ hvc_
                          rw [hva_] at ge383_2
                          rw [hvc_] at ul383_2
                          have HL383_2 := Aside0.mk (show Kd.V k91 91 _ w.heap.size _ _ ((rd_T26 x5_2 x57_4).f2) from Kd.V_mk ul383_2 ge383_2)
                          clear hva_ hvn_ hvc_ ge383_2 ul383_2
                          clear hcc383 hce383
                          have HR383_2 := Aside0.mk hi383_2
                          have HC383_2 := Aside0.mk hl383_2
                          clear hi383_2 hl383_2
                          replace p383 := eq_true p383
                          replace q383 := eq_true q383
                          obtain ⟨Ao50, co50, eo50⟩ := Kd.R_slice HO_13.out
                          subst eo50
                          have p384 : 0 ≤ (0 : Int) := (by omega)
                          have q384 : 0 < (t377.length : Int) := of_decide_eq_true (by assumption)
                          obtain ⟨ad384, e384, hx384_0⟩ := Kd.at_int (Kd.R_reads' HO_13.out).2.2 0 p384 q384
                          cases e384
                          have qi384 : (0 < t377.length) = True := eq_true (by omega)
                          (try rw [show ((0 : Int)).toNat = 0 from rfl] at hx384_0)
                          (try rw [Addr.add_zero'] at hx384_0)
                          replace p384 := eq_true p384
                          replace q384 := eq_true q384
                          go_wp2
                          repeat (go_quiet (fail); try go_wp2)
                          go_roundg k6
                          case measure => have := HJ2.out; have := HK2.out; have := HJ17.out; have := HK4.out; have := HJ27.out; have := HK6.out; omega
                          case rel => exact ⟨((x84_6 == (rd t377 0))), (wrap64 (x84_6 + 1)), (by first | rfl | (simp; done) | (simp [*]; done)), (by first | rfl | (simp; done) | (simp [*]; done)), H', ⟨by have := HJ2.out; have := HK2.out; have := HJ17.out; have := HK4.out; have := HJ27.out; have := HK6.out; omega⟩, ⟨by (with_reducible repeat (first | apply Kd.N_alloc | apply Kd.N_drewN | apply Kd.N_drew)); exact HO_5.out⟩, ⟨by (with_reducible repeat (first | apply Kd.N_alloc | apply Kd.N_drewN | apply Kd.N_drew)); exact HO_8.out⟩, ⟨by (with_reducible repeat (first | apply Kd.R_alloc | apply Kd.R_drewN | apply Kd.R_drew)); exact HO_10.out⟩, ⟨by (with_reducible repeat (first | apply Kd.R_alloc | apply Kd.R_drewN | apply Kd.R_drew)); exact HO_13.out⟩, ⟨by repeat (first | (with_reducible first | exact HB.out | apply below_alloc | apply pw_below_drewN | apply below_drew1) | exact HB.out)⟩⟩
                         ·rw [if_neg c49] at H
                          exact absurd H (by simp)
                        ·rw [if_neg c48] at H
                         have c48b0 : (((rd_T26 t366 x84_6).f0) == ((rd_T26 x5_2 x57_4).f0)) = false := beq_eq_false_iff_ne.mpr c48
                         have c48b1 : (((rd_T26 t366 x84_6).f0) != ((rd_T26 x5_2 x57_4).f0)) = true := bne_iff_ne.mpr c48
                         have H' := Aside0.mk H
                         clear H
                         have p382 : 0 ≤ (x84_6 : Int) := of_decide_eq_true (by assumption)
                         have q382 : x84_6 < (t366.length : Int) := of_decide_eq_true (by assumption)
                         obtain ⟨ad382, A382_2, c382_2, e382, hx382_0, hx382_1, hx382_2, hl382_2, hi382_2⟩ := at_T26 (Kd.N_reads' HO_8.out).2.2 x84_6 p382 q382
                         cases e382
                         obtain ⟨ce382, hce382, hMe382, hcc382⟩ := Kd.N_get HO_8.out z26 x84_6 p382 (by first | exact q382 | exact of_decide_eq_true (by assumption) | (have e_ := (Kd.N_reads' HO_8.out).1; omega))
                         obtain ⟨ua382_2, uc382_2, rfl, ul382_2, ge382_2⟩ := k26_openF hMe382
                         have hv382_2 := hcc382 2 _ rfl
                         rw [add_field _ _ 2 (by omega)] at hv382_2
                         replace hv382_2 := Option.some.inj (hv382_2.symm.trans hx382_2)
                         injection hv382_2 with hva_ hvn_ hvc_
                         rw [hva_] at ge382_2
                         rw [hvc_] at ul382_2
                         have HL382_2 := Aside0.mk (show Kd.V k91 91 _ w.heap.size _ _ ((rd_T26 t366 x84_6).f2) from Kd.V_mk ul382_2 ge382_2)
                         clear hva_ hvn_ hvc_ ge382_2 ul382_2
                         clear hcc382 hce382
                         have HR382_2 := Aside0.mk hi382_2
                         have HC382_2 := Aside0.mk hl382_2
                         clear hi382_2 hl382_2
                         replace p382 := eq_true p382
                         replace q382 := eq_true q382
                         have p383 : 0 ≤ (x57_4 : Int) := of_decide_eq_true (by assumption)
                         have q383 : x57_4 < (x5_2.length : Int) := of_decide_eq_true (by assumption)
                         obtain ⟨ad383, A383_2, c383_2, e383, hx383_0, hx383_1, hx383_2, hl383_2, hi383_2⟩ := at_T26 (Kd.N_reads' HO_5.out).2.2 x57_4 p383 q383
                         cases e383
                         obtain ⟨ce383, hce383, hMe383, hcc383⟩ := Kd.N_get HO_5.out z26 x57_4 p383 (by first | exact q383 | exact of_decide_eq_true (by assumption) | (have e_ := (Kd.N_reads' HO_5.out).1; omega))
                         obtain ⟨ua383_2, uc383_2, rfl, ul383_2, ge383_2⟩ := k26_openF hMe383
                         have hv383_2 := hcc383 2 _ rfl
                         rw [add_field _ _ 2 (by omega)] at hv383_2
                         replace hv383_2 := Option.some.inj (hv383_2.symm.trans hx383_2)
                         injection hv383_2 with hva_ hvn_ hvc_
                         rw [hva_] at ge383_2
                         rw [hvc_] at ul383_2
                         have HL383_2 := Aside0.mk (show Kd.V k91 91 _ w.heap.size _ _ ((rd_T26 x5_2 x57_4).f2) from Kd.V_mk ul383_2 ge383_2)
                         clear hva_ hvn_ hvc_ ge383_2 ul383_2
                         clear hcc383 hce383
                         have HR383_2 := Aside0.mk hi383_2
                         have HC383_2 := Aside0.mk hl383_2
                         clear hi383_2 hl383_2
                         replace p383 := eq_true p383
                         replace q383 := eq_true q383
                         go_wp2
                         repeat (go_quiet (fail); try go_wp2)
                         go_roundg k6
                         case measure => have := HJ2.out; have := HK2.out; have := HJ17.out; have := HK4.out; have := HJ27.out; have := HK6.out; omega
                         case rel => exact ⟨(false), (wrap64 (x84_6 + 1)), (by first | rfl | (simp; done) | (simp [*]; done)), (by first | rfl | (simp; done) | (simp [*]; done)), H', ⟨by have := HJ2.out; have := HK2.out; have := HJ17.out; have := HK4.out; have := HJ27.out; have := HK6.out; omega⟩, ⟨by (with_reducible repeat (first | apply Kd.N_alloc | apply Kd.N_drewN | apply Kd.N_drew)); exact HO_5.out⟩, ⟨by (with_reducible repeat (first | apply Kd.N_alloc | apply Kd.N_drewN | apply Kd.N_drew)); exact HO_8.out⟩, ⟨by (with_reducible repeat (first | apply Kd.R_alloc | apply Kd.R_drewN | apply Kd.R_drew)); exact HO_10.out⟩, ⟨by (with_reducible repeat (first | apply Kd.R_alloc | apply Kd.R_drewN | apply Kd.R_drew)); exact HO_13.out⟩, ⟨by repeat (first | (with_reducible first | exact HB.out | apply below_alloc | apply pw_below_drewN | apply below_drew1) | exact HB.out)⟩⟩
                       ·rw [if_neg c47] at H
                        exact absurd H (by simp)
                      ·rw [if_neg c46] at H
                       exact absurd H (by simp)
                     ·rw [if_neg c45] at H
                      exact absurd H (by simp)
                    ·rw [if_neg c44] at H
                     exact absurd H (by simp)
                  ·rw [if_neg c42] at H
                   have c42b0 : decide (x84_6 < (t366.length : Int)) = false := decide_eq_false c42
                   clear c42
                   by_cases c51 : 0 < (t377.length : Int)
                   ·rw [if_pos c51] at H
                    have c51b0 : decide (0 < (t377.length : Int)) = true := decide_eq_true c51
                    have c51b1 : decide (0 < t377.length) = true := decide_eq_true (by omega)
                    clear c51
                    by_cases c52 : (x15_6 != (decide ((rd t377 0) ≥ 0))) = true
                    ·rw [if_pos c52] at H
                     have c52b0 : (x15_6 != (decide ((rd t377 0) ≥ 0))) = true := c52
                     (try (have c52b1 : decide (x15_6 = (decide ((rd t377 0) ≥ 0))) = false := by simpa using c52))
                     (try (have c52b2 : (x15_6 == (decide ((rd t377 0) ≥ 0))) = false := by simpa using c52))
                     (try (have c52b3 : ¬ (x15_6 = (decide ((rd t377 0) ≥ 0))) := by simpa using c52))
                     clear c52
                     obtain rfl := Option.some.inj H
                     obtain ⟨Ao53, co53, eo53⟩ := Kd.R_slice HO_13.out
                     subst eo53
                     have p385 : 0 ≤ (0 : Int) := (by omega)
                     have q385 : 0 < (t377.length : Int) := of_decide_eq_true (by assumption)
                     obtain ⟨ad385, e385, hx385_0⟩ := Kd.at_int (Kd.R_reads' HO_13.out).2.2 0 p385 q385
                     cases e385
                     have qi385 : (0 < t377.length) = True := eq_true (by omega)
                     (try rw [show ((0 : Int)).toNat = 0 from rfl] at hx385_0)
                     (try rw [Addr.add_zero'] at hx385_0)
                     replace p385 := eq_true p385
                     replace q385 := eq_true q385
                     go_wp2
                     repeat (go_quiet (fail); try go_wp2)
                     go_ret
                     exact ⟨by first | rfl | (simp [errW_none, errW_some] <;> rfl) | (simp [*, errW_none, errW_some] <;> rfl), by repeat (first | (with_reducible first | exact HB.out | apply below_alloc | apply pw_below_drewN | apply below_drew1) | exact HB.out)⟩
                    ·rw [if_neg c52] at H
                     have c52b0 : (x15_6 != (decide ((rd t377 0) ≥ 0))) = false := by simpa using c52
                     (try (have c52b1 : decide (x15_6 = (decide ((rd t377 0) ≥ 0))) = true := by simpa using c52))
                     (try (have c52b2 : (x15_6 == (decide ((rd t377 0) ≥ 0))) = true := by simpa using c52))
                     clear c52
                     have H' := Aside0.mk H
                     clear H
                     obtain ⟨Ao54, co54, eo54⟩ := Kd.R_slice HO_13.out
                     subst eo54
                     have p385 : 0 ≤ (0 : Int) := (by omega)
                     have q385 : 0 < (t377.length : Int) := of_decide_eq_true (by assumption)
                     obtain ⟨ad385, e385, hx385_0⟩ := Kd.at_int (Kd.R_reads' HO_13.out).2.2 0 p385 q385
                     cases e385
                     have qi385 : (0 < t377.length) = True := eq_true (by omega)
                     (try rw [show ((0 : Int)).toNat = 0 from rfl] at hx385_0)
                     (try rw [Addr.add_zero'] at hx385_0)
                     replace p385 := eq_true p385
                     replace q385 := eq_true q385
                     go_wp2
                     repeat (go_quiet (fail); try go_wp2)
                     go_roundg k6
                     case measure => have := HJ2.out; have := HK2.out; have := HJ17.out; have := HK4.out; have := HJ27.out; have := HK6.out; omega
                     case rel => exact ⟨(wrap64 (x57_4 + 1)), (by first | rfl | (simp; done) | (simp [*]; done)), H', ⟨by have := HJ2.out; have := HK2.out; have := HJ17.out; have := HK4.out; have := HJ27.out; have := HK6.out; omega⟩, ⟨by (with_reducible repeat (first | apply Kd.N_alloc | apply Kd.N_drewN | apply Kd.N_drew)); exact Kd.N_mono HO_5.out (fun _ hk => ⟨hk.1, hk.2.1⟩)⟩, ⟨by (with_reducible repeat (first | apply Kd.N_alloc | apply Kd.N_drewN | apply Kd.N_drew)); exact Kd.N_mono HO_8.out (fun _ hk => hk.1)⟩, ⟨by (with_reducible repeat (first | apply Kd.R_alloc | apply Kd.R_drewN | apply Kd.R_drew)); exact HO_10.out⟩, ⟨by repeat (first | (with_reducible first | exact HB.out | apply below_alloc | apply pw_below_drewN | apply below_drew1) | exact HB.out)⟩⟩
                   ·rw [if_neg c51] at H
                    exact absurd H (by simp)
            ·rw [if_neg c26] at H
             have c26b0 : decide (x57_4 < t359) = false := decide_eq_false c26
             clear c26
             obtain rfl := Option.some.inj H
             go_wp2
             repeat (go_quiet (fail); try go_wp2)
             go_ret
             exact ⟨by first | rfl | (simp [errW_none, errW_some] <;> rfl) | (simp [*, errW_none, errW_some] <;> rfl), by repeat (first | (with_reducible first | exact HB.out | apply below_alloc | apply pw_below_drewN | apply below_drew1) | exact HB.out)⟩
def chancerykeep1_DeltaAxisAgrees.Pure : Prop := ∀ (a0 : Int) (l1 : List Int), (Lit.int .i64 a0).wf = true → l1.length ≤ maxLen → l1.length * 8 ≤ 140737488351232 → (∀ x ∈ l1, (Lit.int .i64 x).wf = true) → ∃ k, chancerykeep1_DeltaAxisAgrees.f k a0 l1 = some true
theorem chancerykeep1_DeltaAxisAgrees.walk (P : chancerykeep1_DeltaAxisAgrees.Pure) (a0 : Int) (a1 : Option Addr) (len1 cap1 : Nat) (z1 : List Int) (w : World) (w0 : (Lit.int .i64 a0).wf = true) (w1 : (a1 = none ∧ len1 = 0 ∧ cap1 = 0 ∧ z1 = []) ∨ ∃ x, a1 = some x ∧ len1 ≤ cap1 ∧ cap1 ≤ maxLen ∧ z1.length = cap1 ∧ (∀ i, i < z1.length → w.cell? (x.add i) = some (.int .i64 (z1.getD i 0))) ∧ ∀ n ∈ z1, (Lit.int .i64 n).wf = true) (y1 : len1 * 8 ≤ 140737488351232) :
  Calls Try.prog 7 #[.int .i64 a0, .slice a1 len1 cap1] w fun e w' => e = .returned (.bool true) ∧ Below w.heap.size w w' := by
 obtain ⟨l1, rfl, hr1, hm1, hw1, hc1⟩ := ReadsInt.ofRowC w1
 obtain ⟨k, h⟩ := P a0 l1 w0 hm1 y1 hw1
 refine (chancerykeep1_DeltaAxisAgrees.calls k a0 _ _ l1 true w (Kd.C_of_reads (d := (0 : Int)) (h1 := fun _ => rfl) hr1) hc1 h).mono ?_
 rintro e w' ⟨rfl, hd⟩
 exact ⟨rfl, hd⟩
end
end Go.Proofs.Ytlcodfjlbhjkbaa.PDelta
end
section
namespace Go.Proofs.Ytlcodfjlbhjkbaa.PDelta
open Go.RowKit Go.Proofs.YtlcodfjlbhjkbaaW.PrintWords Go.Proofs.YtlcodfjlbhjkbaaW.PrintLast Go.Proofs.YtlcodfjlbhjkbaaW.PrintMore
theorem wrap_up {i : Int} (h0 : 0 ≤ i) (h : i ≤ 1099511627776) : wrap64 (i + 1) = i + 1 := by unfold wrap64; omega
theorem wrap_dn {i : Int} (h0 : 0 ≤ i) (h : i ≤ 1099511627776) : wrap64 (i - 1) = i - 1 := by unfold wrap64; omega
def chOK (first : Prop) (c : Int) : Prop := (97 ≤ c ∧ c ≤ 122) ∨ (¬ first ∧ (c = 46 ∨ c = 45 ∨ (48 ≤ c ∧ c ≤ 57)))
def NameOK (s : ByteArray) : Prop := 1 ≤ s.size ∧ s.size ≤ 24 ∧ ∀ i : Int, 0 ≤ i → i < s.size → chOK (i = 0) (bt s i)
def ValOK (s : ByteArray) : Prop := 1 ≤ s.size ∧ s.size ≤ 200 ∧ ∀ i : Int, 0 ≤ i → i < s.size → 32 ≤ bt s i ∧ bt s i ≤ 126
theorem size_list (s : ByteArray) : s.toList.length = s.size := by rw [ByteArray.toList_eq]; rfl
theorem list_nil {s : ByteArray} : s.toList = [] ↔ s.size = 0 := by rw [← size_list, List.length_eq_zero_iff]
theorem ba_ext {a b : ByteArray} (h : a.toList = b.toList) : a = b := by
 rw [ByteArray.toList_eq, ByteArray.toList_eq] at h
 cases a; cases b; congr; exact Array.toList_inj.1 h
theorem name_l0 (s : ByteArray) (hs : s.size ≤ 1099511627776) (d : Nat) : ∀ (k : Nat) (i : Int), 0 ≤ i → i ≤ s.size → (s.size : Int) - i = d → d < k →
  ∃ b, attr_Name.l0 k s (s.size : Int) i = some b ∧ (b = true ↔ ∀ j : Int, i ≤ j → j < s.size → chOK False (bt s j)) := by
 induction d with
 | zero =>
  intro k i h0 h1 hd hk
  obtain ⟨k, rfl⟩ : ∃ m, k = m + 1 := ⟨k - 1, by omega⟩
  simp only [attr_Name.l0]
  rw [if_neg (by omega)]
  exact ⟨true, rfl, ⟨fun _ j h2 h3 => by omega, fun _ => rfl⟩⟩
 | succ d ih =>
  intro k i h0 h1 hd hk
  obtain ⟨k, rfl⟩ : ∃ m, k = m + 1 := ⟨k - 1, by omega⟩
  have hlt : i < (s.size : Int) := by omega
  by_cases hc : chOK False (bt s i)
  ·have e : attr_Name.l0 (k + 1) s (s.size : Int) i = attr_Name.l0 k s (s.size : Int) (i + 1) := by
    simp only [attr_Name.l0]
    rw [if_pos hlt, if_pos h0, if_pos hlt, wrap_up h0 (by omega)]
    unfold chOK at hc
    repeat' (first | rfl | split)
    all_goals (exfalso; omega)
   obtain ⟨b, hb, hi⟩ := ih k (i + 1) (by omega) (by omega) (by omega) (by omega)
   refine ⟨b, e.trans hb, hi.trans ⟨fun h j h2 h3 => ?_, fun h j h2 h3 => h j (by omega) h3⟩⟩
   rcases Int.lt_or_eq_of_le h2 with h4 | h4
   ·exact h j (by omega) h3
   ·subst h4; exact hc
  ·refine ⟨false, ?_, ⟨(fun h => by cases h), (fun h => absurd (h i (Int.le_refl _) hlt) hc)⟩⟩
   have hc' : ¬ ((97 ≤ bt s i ∧ bt s i ≤ 122) ∨ (bt s i = 46 ∨ bt s i = 45 ∨ (48 ≤ bt s i ∧ bt s i ≤ 57))) := fun h => hc (h.imp id (fun h => ⟨id, h⟩))
   clear hc
   simp only [attr_Name.l0]
   rw [if_pos hlt, if_pos h0, if_pos hlt]
   repeat' (first | rfl | split)
   all_goals (exfalso; omega)
theorem name_ev (s : ByteArray) (hs : s.size ≤ 1099511627776) : ∃ b, Ev (fun k => attr_Name.f k s) b ∧ (b = true ↔ NameOK s) := by
 have bad : ∀ k, attr_Name.j0 (k + 1) s true = some false := fun k => by simp only [attr_Name.j0]; rw [if_pos trivial]
 have fls : ¬ NameOK s → attr_Name.f 1 s = some false → ∃ b, Ev (fun k => attr_Name.f k s) b ∧ (b = true ↔ NameOK s) := fun h e => ⟨false, Ev.of (fun k => attr_Name.mono s k) e, ⟨(fun h => by cases h), (fun h' => absurd h' h)⟩⟩
 by_cases h0 : s.size = 0
 ·exact fls (fun h => by have := h.1; omega) (by simp only [attr_Name.f]; rw [if_pos (list_nil.2 h0)]; exact bad 0)
 have hn : ¬ s.toList = [] := fun h => h0 (list_nil.1 h)
 by_cases h1 : (s.size : Int) > 24
 ·exact fls (fun h => by have := h.2.1; omega) (by simp only [attr_Name.f]; rw [if_neg hn, if_pos h1]; exact bad 0)
 by_cases h2 : bt s 0 < 97
 ·exact fls (fun h => by have := h.2.2 0 (Int.le_refl _) (by omega); unfold chOK at this; simp at this; omega) (by simp only [attr_Name.f]; rw [if_neg hn, if_neg h1, if_pos (by omega), if_pos h2]; exact bad 0)
 by_cases h3 : bt s 0 > 122
 ·exact fls (fun h => by have := h.2.2 0 (Int.le_refl _) (by omega); unfold chOK at this; simp at this; omega) (by simp only [attr_Name.f]; rw [if_neg hn, if_neg h1, if_pos (by omega), if_neg h2, decide_eq_true h3]; exact bad 0)
 obtain ⟨b, hb, hi⟩ := name_l0 s hs s.size (s.size + 1) 0 (by omega) (by omega) (by omega) (by omega)
 refine ⟨b, Ev.of (fun k => attr_Name.mono s k) (k := s.size + 2) ?_, hi.trans ⟨fun h => ⟨by omega, by omega, fun j a1 a2 => ?_⟩, fun h j a1 a2 => ?_⟩⟩
 ·simp only [attr_Name.f]
  rw [if_neg hn, if_neg h1, if_pos (by omega), if_neg h2, decide_eq_false h3]
  simp only [attr_Name.j0]
  rw [if_neg (by decide)]
  exact hb
 ·rcases h j a1 a2 with h4 | ⟨_, h4⟩
  ·exact .inl h4
  ·by_cases hj : j = 0
   ·subst hj
    exact .inl (by omega)
   ·exact .inr ⟨hj, h4⟩
 ·rcases h.2.2 j a1 a2 with h4 | ⟨_, h4⟩
  ·exact .inl h4
  ·exact .inr ⟨id, h4⟩
theorem val_l0 (s : ByteArray) (hs : s.size ≤ 1099511627776) (d : Nat) : ∀ (k : Nat) (i : Int), 0 ≤ i → i ≤ s.size → (s.size : Int) - i = d → d < k →
  ∃ b, attr_Value.l0 k s (s.size : Int) i = some b ∧ (b = true ↔ ∀ j : Int, i ≤ j → j < s.size → 32 ≤ bt s j ∧ bt s j ≤ 126) := by
 induction d with
 | zero =>
  intro k i h0 h1 hd hk
  obtain ⟨k, rfl⟩ : ∃ m, k = m + 1 := ⟨k - 1, by omega⟩
  simp only [attr_Value.l0]
  rw [if_neg (by omega)]
  exact ⟨true, rfl, ⟨fun _ j h2 h3 => by omega, fun _ => rfl⟩⟩
 | succ d ih =>
  intro k i h0 h1 hd hk
  obtain ⟨k, rfl⟩ : ∃ m, k = m + 1 := ⟨k - 1, by omega⟩
  have hlt : i < (s.size : Int) := by omega
  by_cases hc : 32 ≤ bt s i ∧ bt s i ≤ 126
  ·have e : attr_Value.l0 (k + 1) s (s.size : Int) i = attr_Value.l0 k s (s.size : Int) (i + 1) := by
    simp only [attr_Value.l0]
    rw [if_pos hlt, if_pos h0, if_pos hlt, wrap_up h0 (by omega), if_neg (by omega), if_neg (by omega)]
   obtain ⟨b, hb, hi⟩ := ih k (i + 1) (by omega) (by omega) (by omega) (by omega)
   refine ⟨b, e.trans hb, hi.trans ⟨fun h j h2 h3 => ?_, fun h j h2 h3 => h j (by omega) h3⟩⟩
   rcases Int.lt_or_eq_of_le h2 with h4 | h4
   ·exact h j (by omega) h3
   ·subst h4; exact hc
  ·refine ⟨false, ?_, ⟨(fun h => by cases h), (fun h => absurd (h i (Int.le_refl _) hlt) hc)⟩⟩
   simp only [attr_Value.l0]
   rw [if_pos hlt, if_pos h0, if_pos hlt]
   repeat' (first | rfl | split)
   all_goals (exfalso; omega)
theorem val_ev (s : ByteArray) (hs : s.size ≤ 1099511627776) : ∃ b, Ev (fun k => attr_Value.f k s) b ∧ (b = true ↔ ValOK s) := by
 have bad : ∀ k, attr_Value.j0 (k + 1) s true = some false := fun k => by simp only [attr_Value.j0]; rw [if_pos trivial]
 have fls : ¬ ValOK s → attr_Value.f 1 s = some false → ∃ b, Ev (fun k => attr_Value.f k s) b ∧ (b = true ↔ ValOK s) := fun h e => ⟨false, Ev.of (fun k => attr_Value.mono s k) e, ⟨(fun h => by cases h), (fun h' => absurd h' h)⟩⟩
 by_cases h0 : s.size = 0
 ·exact fls (fun h => by have := h.1; omega) (by simp only [attr_Value.f]; rw [if_pos (list_nil.2 h0)]; exact bad 0)
 have hn : ¬ s.toList = [] := fun h => h0 (list_nil.1 h)
 by_cases h1 : (s.size : Int) > 200
 ·exact fls (fun h => by have := h.2.1; omega) (by simp only [attr_Value.f]; rw [if_neg hn, decide_eq_true h1]; exact bad 0)
 obtain ⟨b, hb, hi⟩ := val_l0 s hs s.size (s.size + 1) 0 (by omega) (by omega) (by omega) (by omega)
 refine ⟨b, Ev.of (fun k => attr_Value.mono s k) (k := s.size + 2) ?_, hi.trans ⟨fun h => ⟨by omega, by omega, h⟩, fun h => h.2.2⟩⟩
 simp only [attr_Value.f]
 rw [if_neg hn, decide_eq_false h1]
 simp only [attr_Value.j0]
 rw [if_neg (by decide)]
 exact hb
def Small (l : List S91) : Prop := l.length ≤ 1099511627776 ∧ ∀ x ∈ l, x.f0.size ≤ 1099511627776 ∧ x.f1.size ≤ 1099511627776
def ElOK (ch : Bool) (x : S91) : Prop := NameOK x.f0 ∧ (ValOK x.f1 ∨ (ch = true ∧ x.f1.size = 0))
def Srt (l : List S91) : Prop := l.Pairwise (fun x y => ltS x y = true)
def VA (ch : Bool) (l : List S91) : Prop := (∀ x ∈ l, ElOK ch x) ∧ Srt l
def EL (ch : Bool) (l : List S91) (j : Int) : Prop := ElOK ch (rd_T91 l j) ∧ (0 < j → ltS (rd_T91 l (j - 1)) (rd_T91 l j) = true)
theorem rd_mem {l : List S91} {i : Int} (h0 : 0 ≤ i) (h : i < l.length) : rd_T91 l i ∈ l := by
 have : i.toNat < l.length := by omega
 simp only [rd_T91, List.getD_eq_getElem?_getD, List.getElem?_eq_getElem this, Option.getD_some]
 exact List.getElem_mem this
theorem rd_cons {x : S91} {l : List S91} {i : Int} (h0 : 0 ≤ i) : rd_T91 (x :: l) (i + 1) = rd_T91 l i := by
 have : (i + 1).toNat = i.toNat + 1 := by omega
 simp [rd_T91, this]
theorem mem_rd {l : List S91} {x : S91} (h : x ∈ l) : ∃ i : Int, 0 ≤ i ∧ i < l.length ∧ rd_T91 l i = x := by
 obtain ⟨j, hj, e⟩ := List.getElem_of_mem h
 exact ⟨(j : Int), by omega, by omega, by simp [rd_T91, List.getD_eq_getElem?_getD, List.getElem?_eq_getElem hj, e]⟩
theorem va_of_el (ch : Bool) (l : List S91) : (∀ j : Int, 0 ≤ j → j < l.length → EL ch l j) → VA ch l := by
 intro h
 refine ⟨fun x hx => ?_, ?_⟩
 ·obtain ⟨i, h0, h1, rfl⟩ := mem_rd hx
  exact (h i h0 h1).1
 ·have h' : ∀ j : Int, 0 < j → j < l.length → ltS (rd_T91 l (j - 1)) (rd_T91 l j) = true := fun j h0 h1 => (h j (by omega) h1).2 h0
  clear h
  induction l with
  | nil => exact List.Pairwise.nil
  | cons x l ih =>
   have hs : Srt l := ih (fun j h0 h1 => by
    have := h' (j + 1) (by omega) (by simp; omega)
    rw [rd_cons (by omega), show j + 1 - 1 = (j - 1) + 1 by omega, rd_cons (by omega)] at this
    exact this)
   refine List.Pairwise.cons (fun y hy => ?_) hs
   cases l with
   | nil => cases hy
   | cons z t =>
    have hxz : ltS x z = true := by
     have := h' 1 (by omega) (by simp; omega)
     simpa [rd_T91] using this
    rcases List.mem_cons.1 hy with rfl | hy
    ·exact hxz
    ·exact Ord.less_trans hxz ((List.pairwise_cons.1 hs).1 y hy)
theorem el_of_va (ch : Bool) (l : List S91) (h : VA ch l) : ∀ j : Int, 0 ≤ j → j < l.length → EL ch l j := by
 intro j h0 h1
 refine ⟨h.1 _ (rd_mem h0 h1), fun hj => ?_⟩
 have := List.pairwise_iff_getElem.1 h.2 (j - 1).toNat j.toNat (by omega) (by omega) (by omega)
 simpa [rd_T91, List.getD_eq_getElem?_getD, List.getElem?_eq_getElem (show j.toNat - 1 < l.length by omega), List.getElem?_eq_getElem (show j.toNat < l.length by omega)] using this
theorem chk_l0 (l : List S91) (ch : Bool) (hs : Small l) (d : Nat) : ∀ i : Int, 0 ≤ i → i ≤ l.length → (l.length : Int) - i = d →
  ∃ r : Int, Ev (fun k => attr_check.l0 k l ch l (l.length : Int) i) r ∧ (r = 0 ↔ ∀ j : Int, i ≤ j → j < l.length → EL ch l j) := by
 induction d with
 | zero =>
  intro i h0 h1 hd
  refine ⟨0, Ev.step (f := fun _ => some 0) (fun k => ?_) (Ev.now 0), ⟨fun _ j h2 h3 => by omega, fun _ => rfl⟩⟩
  simp only [attr_check.l0]
  rw [if_neg (by omega)]
 | succ d ih =>
  intro i h0 h1 hd
  have hlt : i < (l.length : Int) := by omega
  have hsz := hs.2 _ (rd_mem h0 hlt)
  have hs1 := hs.1
  obtain ⟨b, hb, hbn⟩ := name_ev _ hsz.1
  obtain ⟨c, hc, hcv⟩ := val_ev _ hsz.2
  cases b with
  | false =>
   refine ⟨9, Ev.step (fun k => by simp only [attr_check.l0]; rw [if_pos hlt, if_pos h0, if_pos hlt]) (Ev.bind hb (Ev.congr (fun k => by rw [if_neg (by decide)]) (Ev.now 9))), ⟨fun h => by omega, fun h => ?_⟩⟩
   exact absurd (hbn.2 (h i (Int.le_refl _) hlt).1.1) (by decide)
  | true =>
   have hno := hbn.1 rfl
   have key : ∀ bad : Bool, (bad = false ↔ (ValOK (rd_T91 l i).f1 ∨ (ch = true ∧ (rd_T91 l i).f1.size = 0))) →
     ∃ r : Int, Ev (fun k => attr_check.j1 k l ch i l (l.length : Int) i bad (rd_T91 l i).f0 (rd_T91 l i).f1) r ∧ (r = 0 ↔ ∀ j : Int, i ≤ j → j < l.length → EL ch l j) := by
    intro bad hbad
    cases bad with
    | true =>
     refine ⟨23, Ev.step (fun k => by simp only [attr_check.j1]; rw [if_pos (by decide)]) (Ev.now 23), ⟨fun h => by omega, fun h => ?_⟩⟩
     exact absurd (hbad.2 (h i (Int.le_refl _) hlt).1.2) (by decide)
    | false =>
     have hel : ElOK ch (rd_T91 l i) := ⟨hno, hbad.1 rfl⟩
     obtain ⟨r, hr, hri⟩ := ih (i + 1) (by omega) (by omega) (by omega)
     by_cases hi : i > 0
     ·cases hlt' : ltS (rd_T91 l (i - 1)) (rd_T91 l i) with
      | true =>
       refine ⟨r, Ev.step (fun k => by
        simp only [attr_check.j1]
        rw [if_neg (by decide), if_pos hi, wrap_dn h0 (by omega), if_pos (by omega), if_pos (by omega), if_pos hlt', wrap_up h0 (by omega)]) hr, hri.trans ⟨fun h j h2 h3 => ?_, fun h j h2 h3 => h j (by omega) h3⟩⟩
       rcases Int.lt_or_eq_of_le h2 with h4 | h4
       ·exact h j (by omega) h3
       ·subst h4; exact ⟨hel, fun _ => hlt'⟩
      | false =>
       refine ⟨5, Ev.step (fun k => by
        simp only [attr_check.j1]
        rw [if_neg (by decide), if_pos hi, wrap_dn h0 (by omega), if_pos (by omega), if_pos (by omega), if_neg (fun h => absurd (h.symm.trans hlt') (by decide))]) (Ev.now 5), ⟨fun h => by omega, fun h => ?_⟩⟩
       have := (h i (Int.le_refl _) hlt).2 hi
       rw [hlt'] at this; cases this
     ·refine ⟨r, Ev.step (fun k => by
       simp only [attr_check.j1]
       rw [if_neg (by decide), if_neg hi, wrap_up h0 (by omega)]) hr, hri.trans ⟨fun h j h2 h3 => ?_, fun h j h2 h3 => h j (by omega) h3⟩⟩
      rcases Int.lt_or_eq_of_le h2 with h4 | h4
      ·exact h j (by omega) h3
      ·subst h4; exact ⟨hel, fun h => absurd h hi⟩
   cases c with
   | true =>
    obtain ⟨r, hr, hri⟩ := key false ⟨fun _ => .inl (hcv.1 rfl), fun _ => rfl⟩
    exact ⟨r, Ev.step (fun k => by simp only [attr_check.l0]; rw [if_pos hlt, if_pos h0, if_pos hlt]) (Ev.bind hb (Ev.congr (fun k => by rw [if_pos (by decide)]) (Ev.bind hc (Ev.congr (fun k => by rw [if_pos (by decide)]) hr)))), hri⟩
   | false =>
    have hnv : ¬ ValOK (rd_T91 l i).f1 := fun h => absurd (hcv.2 h) (by decide)
    cases ch with
    | false =>
     obtain ⟨r, hr, hri⟩ := key true ⟨(fun h => by cases h), (fun h => by rcases h with h | ⟨h, _⟩; exact absurd h hnv; cases h)⟩
     exact ⟨r, Ev.step (fun k => by simp only [attr_check.l0]; rw [if_pos hlt, if_pos h0, if_pos hlt]) (Ev.bind hb (Ev.congr (fun k => by rw [if_pos (by decide)]) (Ev.bind hc (Ev.congr (fun k => by rw [if_neg (by decide), if_neg (by decide)]; rfl) hr)))), hri⟩
    | true =>
     obtain ⟨r, hr, hri⟩ := key (!((rd_T91 l i).f1.toList == ([] : List UInt8))) (by
      by_cases he : (rd_T91 l i).f1.toList = []
      ·rw [he]; exact ⟨fun _ => .inr ⟨rfl, list_nil.1 he⟩, fun _ => rfl⟩
      ·exact ⟨(fun h => by simp at h; exact absurd h he), (fun h => by rcases h with h | ⟨_, h⟩; exact absurd h hnv; exact absurd (list_nil.2 h) he)⟩)
     exact ⟨r, Ev.step (fun k => by simp only [attr_check.l0]; rw [if_pos hlt, if_pos h0, if_pos hlt]) (Ev.bind hb (Ev.congr (fun k => by rw [if_pos (by decide)]) (Ev.bind hc (Ev.congr (fun k => by rw [if_neg (by decide), if_pos trivial]) hr)))), hri⟩
theorem chkc_ev (l : List S91) (hs : Small l) : ∃ r : Int, Ev (fun k => attr_CheckChange.f k l) r ∧ (r = 0 ↔ VA true l) := by
 obtain ⟨r, hr, hri⟩ := chk_l0 l true hs l.length 0 (by omega) (by omega) (by omega)
 exact ⟨r, Ev.bind (g := fun k => attr_check.f k l true) hr (Ev.now r), hri.trans ⟨va_of_el true l, el_of_va true l⟩⟩
theorem chk_ev (l : List S91) (hs : Small l) : ∃ r : Int, Ev (fun k => attr_Check.f k l) r ∧ (r = 0 ↔ VA false l) := by
 obtain ⟨r, hr, hri⟩ := chk_l0 l false hs l.length 0 (by omega) (by omega) (by omega)
 exact ⟨r, Ev.bind (g := fun k => attr_check.f k l false) hr (Ev.now r), hri.trans ⟨va_of_el false l, el_of_va false l⟩⟩
def CharOK (c : Int) : Prop := c = 9 ∨ c = 10 ∨ (32 ≤ c ∧ c ≤ 126) ∨ (160 ≤ c ∧ c ≤ 55295) ∨ (57344 ≤ c ∧ c ≤ 1114111)
instance (c : Int) : Decidable (CharOK c) := by unfold CharOK; infer_instance
theorem char_is (c : Int) : flow_Char.f c = some (decide (CharOK c)) := by
 have e : ∀ {p : Prop} [Decidable p] {b : Bool}, (p ↔ b = true) → decide p = b := fun {p} _ {b} h => by
  cases b with
  | true => exact decide_eq_true (h.2 rfl)
  | false => exact decide_eq_false (fun hp => absurd (h.1 hp) (by decide))
 unfold flow_Char.f
 repeat' split
 all_goals
  refine congrArg some (e ?_).symm
  simp only [iff_true, decide_eq_true_eq, Bool.false_eq_true, iff_false, CharOK]
  omega
def ElemOK (x : S26) : Prop := ((x.f0 = 0 ∧ 1 ≤ x.f1 ∧ x.f1 ≤ 1073741824) ∨ (x.f1 = 0 ∧ CharOK x.f0)) ∧ VA false x.f2
theorem not_char0 : ¬ CharOK 0 := by unfold CharOK; omega
theorem elem_ev (x : S26) (hs : Small x.f2) : ∃ r : Int, Ev (fun k => flow_elem.f k x.f0 x.f1 x.f2) r ∧ (r = 0 ↔ ElemOK x) := by
 obtain ⟨a, ha, hai⟩ := chk_ev x.f2 hs
 have last : Ev (fun k => (attr_Check.f k x.f2).bind fun t => some t) a := Ev.bind ha (Ev.now a)
 by_cases h0 : x.f0 = 0
 ·by_cases h1 : x.f1 = 0
  ·refine ⟨4, Ev.congr (fun k => ?_) (Ev.now 4), ⟨fun h => by omega, fun h => ?_⟩⟩
   ·unfold flow_elem.f
    rw [h0, h1]
    rfl
   ·rcases h.1 with h | h
    ·omega
    ·rw [h0] at h; exact absurd h.2 not_char0
  ·have e : ∀ k, flow_elem.f (k + 1) x.f0 x.f1 x.f2 = if x.f1 < 1 then some 2 else if x.f1 > 1073741824 then some 2 else (attr_Check.f k x.f2).bind fun t => some t := fun k => by
    unfold flow_elem.f
    rw [h0, if_neg (by simpa using h1), if_neg h1, flow_elem.j0, if_neg (by decide), if_neg h1]
   by_cases h2 : 1 ≤ x.f1 ∧ x.f1 ≤ 1073741824
   ·refine ⟨a, Ev.step (fun k => by rw [e, if_neg (by omega), if_neg (by omega)]) last, hai.trans ⟨fun h => ⟨.inl ⟨h0, h2⟩, h⟩, fun h => h.2⟩⟩
   ·refine ⟨2, Ev.step (f := fun _ => some 2) (fun k => by rw [e]; split; rfl; rw [if_pos (by omega)]) (Ev.now 2), ⟨fun h => by omega, fun h => ?_⟩⟩
    rcases h.1 with h | h
    ·exact absurd h.2 h2
    ·exact absurd h.1 h1
 ·by_cases h1 : x.f1 = 0
  ·have e : ∀ k, flow_elem.f (k + 1) x.f0 x.f1 x.f2 = if decide (CharOK x.f0) = true then (attr_Check.f k x.f2).bind fun t => some t else some 2 := fun k => by
    unfold flow_elem.f
    rw [h1, if_neg (by simpa using h0), if_pos rfl, char_is, Option.bind_some, flow_elem.j0]
    cases decide (CharOK x.f0) with
    | true => rw [if_neg (show ¬ ((!true) = true) by decide), if_pos rfl, if_pos rfl]
    | false => rw [if_pos (show (!false) = true from rfl), if_neg (by decide)]
   by_cases h2 : CharOK x.f0
   ·refine ⟨a, Ev.step (fun k => by rw [e, if_pos (decide_eq_true h2)]) last, hai.trans ⟨fun h => ⟨.inr ⟨h1, h2⟩, h⟩, fun h => h.2⟩⟩
   ·refine ⟨2, Ev.step (f := fun _ => some 2) (fun k => by rw [e, if_neg (by rw [decide_eq_true_eq]; exact h2)]) (Ev.now 2), ⟨fun h => by omega, fun h => ?_⟩⟩
    rcases h.1 with h | h
    ·exact absurd h.1 h0
    ·exact absurd h.2 h2
  ·refine ⟨4, Ev.congr (fun k => ?_) (Ev.now 4), ⟨fun h => by omega, fun h => ?_⟩⟩
   ·have e0 : (x.f0 != 0) = true := by simpa using h0
    have e1 : (x.f1 != 0) = true := by simpa using h1
    unfold flow_elem.f
    rw [e0, e1, if_pos (show (true == true) = true from rfl)]
   ·rcases h.1 with h | h
    ·exact absurd h.1 h0
    ·exact absurd h.1 h1
def FSmall (f : List S26) : Prop := f.length ≤ 1073741824 ∧ ∀ x ∈ f, Small x.f2 ∧ x.f2.length ≤ 1073741824
theorem rdf_mem {l : List S26} {i : Int} (h0 : 0 ≤ i) (h : i < l.length) : rd_T26 l i ∈ l := by
 have : i.toNat < l.length := by omega
 simp only [rd_T26, List.getD_eq_getElem?_getD, List.getElem?_eq_getElem this, Option.getD_some]
 exact List.getElem_mem this
theorem memf_rd {l : List S26} {x : S26} (h : x ∈ l) : ∃ i : Int, 0 ≤ i ∧ i < l.length ∧ rd_T26 l i = x := by
 obtain ⟨j, hj, e⟩ := List.getElem_of_mem h
 exact ⟨(j : Int), by omega, by omega, by simp [rd_T26, List.getD_eq_getElem?_getD, List.getElem?_eq_getElem hj, e]⟩
def POK (f : List S26) : Prop := ∀ j : Int, 0 ≤ j → j < f.length → ElemOK (rd_T26 f j)
theorem part_l0 (f : List S26) (hs : FSmall f) (d : Nat) : ∀ i : Int, 0 ≤ i → i ≤ f.length → (f.length : Int) - i = d →
  ∃ r : Int, Ev (fun k => flow_CheckPart.l0 k f (f.length : Int) i) r ∧ (r = 0 ↔ ∀ j : Int, i ≤ j → j < f.length → ElemOK (rd_T26 f j)) := by
 induction d with
 | zero =>
  intro i h0 h1 hd
  refine ⟨0, Ev.step (f := fun _ => some 0) (fun k => ?_) (Ev.now 0), ⟨fun _ j h2 h3 => by omega, fun _ => rfl⟩⟩
  simp only [flow_CheckPart.l0]
  rw [if_neg (by omega)]
 | succ d ih =>
  intro i h0 h1 hd
  have hlt : i < (f.length : Int) := by omega
  have hs1 := hs.1
  obtain ⟨e, he, hei⟩ := elem_ev (rd_T26 f i) (hs.2 _ (rdf_mem h0 hlt)).1
  obtain ⟨r, hr, hri⟩ := ih (i + 1) (by omega) (by omega) (by omega)
  by_cases hz : e = 0
  ·subst hz
   refine ⟨r, Ev.step (fun k => by simp only [flow_CheckPart.l0]; rw [if_pos hlt, if_pos h0, if_pos hlt, wrap_up h0 (by omega)]) (Ev.bind he (Ev.congr (fun k => by rw [if_pos rfl]) hr)), hri.trans ⟨fun h j h2 h3 => ?_, fun h j h2 h3 => h j (by omega) h3⟩⟩
   rcases Int.lt_or_eq_of_le h2 with h4 | h4
   ·exact h j (by omega) h3
   ·subst h4; exact hei.1 rfl
  ·refine ⟨e, Ev.step (fun k => by simp only [flow_CheckPart.l0]; rw [if_pos hlt, if_pos h0, if_pos hlt]) (Ev.bind he (Ev.congr (fun k => by rw [if_neg hz]) (Ev.now e))), ⟨fun h => absurd h hz, fun h => ?_⟩⟩
   exact hei.2 (h i (Int.le_refl _) hlt)
theorem part_ev (f : List S26) (hs : FSmall f) : ∃ r : Int, Ev (fun k => flow_CheckPart.f k f) r ∧ (r = 0 ↔ POK f) := part_l0 f hs f.length 0 (by omega) (by omega) (by omega)
theorem copy_l0 (f : List S26) (hs : FSmall f) (d : Nat) : ∀ (i : Nat), i + d = f.length → Ev (fun k => flow_Copy.l0 k (f.take i ++ List.replicate (f.length - i) z26) f (f.length : Int) (i : Int)) f := by
 induction d with
 | zero =>
  intro i hi
  refine Ev.step (f := fun _ => some f) (fun k => ?_) (Ev.now f)
  simp only [flow_Copy.l0]
  rw [if_neg (by omega), show i = f.length by omega]
  simp
 | succ d ih =>
  intro i hi
  have hs1 := hs.1
  have hlt : (i : Int) < (f.length : Int) := by omega
  refine Ev.step (fun k => ?_) (ih (i + 1) (by omega))
  have hlen : (f.take i ++ List.replicate (f.length - i) z26).length = f.length := by simp; omega
  have hx : rd_T26 f (i : Int) = f[i]'(by omega) := by
   simp [rd_T26, List.getD_eq_getElem?_getD, List.getElem?_eq_getElem (show i < f.length by omega)]
  have h2 := (hs.2 _ (rdf_mem (l := f) (i := (i : Int)) (by omega) hlt)).2
  simp only [flow_Copy.l0]
  rw [if_pos hlt, if_pos (by omega), if_pos hlt, if_pos (by simp; omega), if_pos (by rw [hlen]; exact hlt), wrap_up (by omega) (by omega), show ((i : Int) + 1) = ((i + 1 : Nat) : Int) from by omega]
  have hset : (f.take i ++ List.replicate (f.length - i) z26).set (i : Int).toNat (⟨(rd_T26 f (i : Int)).f0, (rd_T26 f (i : Int)).f1, ([] : List S91) ++ (rd_T26 f (i : Int)).f2⟩ : S26) = f.take (i + 1) ++ List.replicate (f.length - (i + 1)) z26 := by
   rw [List.nil_append, Int.toNat_natCast]
   have hn : f.length - i = (f.length - (i + 1)) + 1 := by omega
   rw [hn, List.replicate_succ, List.set_append_right _ _ (by simp; omega)]
   have : i - (f.take i).length = 0 := by simp; omega
   have ht : f.take (i + 1) = f.take i ++ [f[i]'(by omega)] := by
    rw [List.take_add_one, List.getElem?_eq_getElem (show i < f.length by omega)]
    rfl
   rw [this, List.set_cons_zero, hx, ht, List.append_assoc]
   rfl
  rw [hset]
theorem copy_ev (f : List S26) (hs : FSmall f) : Ev (fun k => flow_Copy.f k f) f := by
 have hs1 := hs.1
 refine Ev.congr (fun k => ?_) (copy_l0 f hs f.length 0 (by omega))
 unfold flow_Copy.f
 rw [if_pos (by omega), if_pos (by omega)]
 simp
theorem within_ev (v hi : Int) (h1 : 0 ≤ hi) (h2 : hi ≤ 1099511627776) : ∃ r, chanceryref1_Within.f v 0 hi = some r ∧ 0 ≤ r ∧ r ≤ hi := by
 have wm : ∀ {i : Int}, 0 ≤ i → i ≤ 4611686018427387904 → wrap64 i = i := fun {i} a b => by unfold wrap64; omega
 unfold chanceryref1_Within.f
 rw [show wrap64 (hi - 0) = hi - 0 from wm (by omega) (by omega), show wrap64 (hi - 0 + 1) = hi - 0 + 1 from wm (by omega) (by omega), if_neg (by omega)]
 obtain ⟨n, hn⟩ : ∃ n, n = hi - 0 + 1 := ⟨_, rfl⟩
 rw [← hn]
 refine ⟨_, rfl, ?_⟩
 have h3 : -n < Int.tmod v n ∧ Int.tmod v n < n := ⟨Int.lt_tmod_of_pos v (by omega), Int.tmod_lt_of_pos v (by omega)⟩
 have h4 : wrap64 (Int.tmod v n + n) = Int.tmod v n + n := wm (by omega) (by omega)
 rw [h4]
 have h5 : 0 ≤ Int.tmod (Int.tmod v n + n) n := Int.tmod_nonneg _ (by omega)
 have h6 : Int.tmod (Int.tmod v n + n) n < n := Int.tmod_lt_of_pos _ (by omega)
 rw [wm (by omega) (by omega)]
 omega
theorem s91_ext {x y : S91} (h0 : x.f0.toList = y.f0.toList) (h1 : x.f1.toList = y.f1.toList) : x = y := by
 cases x; cases y
 cases ba_ext h0
 cases ba_ext h1
 rfl
def mrg (E : S91 → S91 → Option S91) : List S91 → List S91 → List S91
 | [], [] => []
 | x :: a, [] => (E x nil91).toList ++ mrg E a []
 | [], y :: b => (E nil91 y).toList ++ mrg E [] b
 | x :: a, y :: b => if ltS x y = true then (E x nil91).toList ++ mrg E a (y :: b) else if ltS y x = true then (E nil91 y).toList ++ mrg E (x :: a) b else (E x y).toList ++ mrg E a b
termination_by a b => a.length + b.length
theorem bothL_mrg (V : List S91 → S91 → S91 → List S91) (E : S91 → S91 → Option S91) (h : ∀ o x y, V o x y = o ++ (E x y).toList) : ∀ (a b o : List S91), bothL V o a b = o ++ mrg E a b := by
 intro a b
 induction a, b using mrg.induct with
 | case1 => intro o; rw [bothL, mrg, List.append_nil]
 | case2 x a ih => intro o; rw [bothL, mrg, ih, h]; exact List.append_assoc _ _ _
 | case3 y b ih => intro o; rw [bothL, mrg, ih, h]; exact List.append_assoc _ _ _
 | case4 x a y b hlt ih => intro o; rw [bothL, mrg, if_pos hlt, if_pos hlt, ih, h]; exact List.append_assoc _ _ _
 | case5 x a y b hlt hlt' ih => intro o; rw [bothL, mrg, if_neg hlt, if_neg hlt, if_pos hlt', if_pos hlt', ih, h]; exact List.append_assoc _ _ _
 | case6 x a y b hlt hlt' ih => intro o; rw [bothL, mrg, if_neg hlt, if_neg hlt, if_neg hlt', if_neg hlt', ih, h]; exact List.append_assoc _ _ _
def rawE (x y : S91) : Option S91 := if y.f0.toList = [] then some x else if y.f1.toList = [] then none else some y
theorem fold_mrg {V : List S91 → S91 → S91 → List S91} {E : S91 → S91 → Option S91} (h : ∀ o x y, V o x y = o ++ (E x y).toList) (a b : List S91) : bothL V [] a b = mrg E a b := by rw [bothL_mrg V E h, List.nil_append]
theorem rawV_E (o : List S91) (x y : S91) : rawV o x y = o ++ (rawE x y).toList := by
 unfold rawV rawE
 by_cases h1 : y.f0.toList = []
 ·rw [if_pos h1, if_pos h1]; rfl
 ·rw [if_neg h1, if_neg h1]
  by_cases h2 : y.f1.toList = []
  ·rw [if_pos h2, if_pos h2]; exact (List.append_nil _).symm
  ·rw [if_neg h2, if_neg h2]; rfl
theorem raw_f {a b : List S91} (ha : a.length ≤ 1073741824) (hb : b.length ≤ 1073741824) : attr_Raw.f a b = some (mrg rawE a b) := by
 unfold attr_Raw.f; rw [if_pos (by omega), fold_mrg rawV_E]
theorem drop_T91 (l : List S91) (i : Nat) (h : i < l.length) : l.drop i = rd_T91 l (i : Int) :: l.drop (i + 1) := by
 rw [List.drop_eq_getElem_cons h]
 simp [rd_T91, List.getD_eq_getElem?_getD, List.getElem?_eq_getElem h]
theorem neq_cond (x y : S91) : ((!(x.f0.toList == y.f0.toList) || (!(x.f1.toList == y.f1.toList))) = true) ↔ x ≠ y := by
 rw [Bool.or_eq_true, Bool.not_eq_true', Bool.not_eq_true', beq_eq_false_iff_ne, beq_eq_false_iff_ne]
 constructor
 ·rintro h rfl
  rcases h with h | h <;> exact h rfl
 ·intro h
  by_cases h0 : x.f0.toList = y.f0.toList
  ·exact .inr (fun h1 => h (s91_ext h0 h1))
  ·exact .inl h0
theorem asame_l0 (a b : List S91) (hs : a.length ≤ 1099511627776) (hl : a.length = b.length) (d : Nat) : ∀ i : Nat, i + d = a.length → ∃ r, Ev (fun k => attr_Same.l0 k a b (a.length : Int) (i : Int)) r ∧ (r = true ↔ a.drop i = b.drop i) := by
 induction d with
 | zero =>
  intro i hi
  refine ⟨true, Ev.step (f := fun _ => some true) (fun k => ?_) (Ev.now true), ⟨fun _ => by rw [List.drop_eq_nil_of_le (by omega), List.drop_eq_nil_of_le (by omega)], fun _ => rfl⟩⟩
  simp only [attr_Same.l0]
  rw [if_neg (by omega)]
 | succ d ih =>
  intro i hi
  obtain ⟨r, hr, hri⟩ := ih (i + 1) (by omega)
  have e : ∀ k, attr_Same.l0 (k + 1) a b (a.length : Int) (i : Int) = if (!(((rd_T91 a (i : Int)).f0).toList == ((rd_T91 b (i : Int)).f0).toList) || (!(((rd_T91 a (i : Int)).f1).toList == ((rd_T91 b (i : Int)).f1).toList))) = true then some false else attr_Same.l0 k a b (a.length : Int) ((i + 1 : Nat) : Int) := fun k => by
   simp only [attr_Same.l0]
   rw [if_pos (by omega), if_pos (by omega), if_pos (by omega), if_pos (by omega), wrap_up (by omega) (by omega)]
   rfl
  rw [drop_T91 a i (by omega), drop_T91 b i (by omega)]
  by_cases hx : rd_T91 a (i : Int) = rd_T91 b (i : Int)
  ·refine ⟨r, Ev.step (fun k => by rw [e, if_neg (fun h => (neq_cond _ _).1 h hx)]) hr, hri.trans ⟨fun h => by rw [hx, h], fun h => (List.cons.inj h).2⟩⟩
  ·exact ⟨false, Ev.step (f := fun _ => some false) (fun k => by rw [e, if_pos ((neq_cond _ _).2 hx)]) (Ev.now false), ⟨(fun h => by cases h), (fun h => absurd (List.cons.inj h).1 hx)⟩⟩
theorem asame_ev (a b : List S91) (hs : a.length ≤ 1099511627776) : ∃ r, Ev (fun k => attr_Same.f k a b) r ∧ (r = true ↔ a = b) := by
 by_cases hl : a.length = b.length
 ·obtain ⟨r, hr, hri⟩ := asame_l0 a b hs hl a.length 0 (by omega)
  refine ⟨r, Ev.congr (fun k => ?_) hr, hri⟩
  unfold attr_Same.f
  rw [if_pos (by omega)]
  rfl
 ·refine ⟨false, Ev.congr (fun k => ?_) (Ev.now false), ⟨(fun h => by cases h), (fun h => absurd (congrArg List.length h) hl)⟩⟩
  unfold attr_Same.f
  rw [if_neg (by omega)]
theorem rsame_l0 (a b : List S91) (hs : a.length ≤ 1099511627776) (hl : a.length = b.length) (d : Nat) : ∀ i : Nat, i + d = a.length → ∃ r, Ev (fun k => chanceryref1_SameAttrs.l0 k a b (a.length : Int) (i : Int)) r ∧ (r = true ↔ a.drop i = b.drop i) := by
 induction d with
 | zero =>
  intro i hi
  refine ⟨true, Ev.step (f := fun _ => some true) (fun k => ?_) (Ev.now true), ⟨fun _ => by rw [List.drop_eq_nil_of_le (by omega), List.drop_eq_nil_of_le (by omega)], fun _ => rfl⟩⟩
  simp only [chanceryref1_SameAttrs.l0]
  rw [if_neg (by omega)]
 | succ d ih =>
  intro i hi
  obtain ⟨r, hr, hri⟩ := ih (i + 1) (by omega)
  have e : ∀ k, chanceryref1_SameAttrs.l0 (k + 1) a b (a.length : Int) (i : Int) = if (!(((rd_T91 a (i : Int)).f0).toList == ((rd_T91 b (i : Int)).f0).toList) || (!(((rd_T91 a (i : Int)).f1).toList == ((rd_T91 b (i : Int)).f1).toList))) = true then some false else chanceryref1_SameAttrs.l0 k a b (a.length : Int) ((i + 1 : Nat) : Int) := fun k => by
   simp only [chanceryref1_SameAttrs.l0]
   rw [if_pos (by omega), if_pos (by omega), if_pos (by omega), if_pos (by omega), wrap_up (by omega) (by omega)]
   rfl
  rw [drop_T91 a i (by omega), drop_T91 b i (by omega)]
  by_cases hx : rd_T91 a (i : Int) = rd_T91 b (i : Int)
  ·refine ⟨r, Ev.step (fun k => by rw [e, if_neg (fun h => (neq_cond _ _).1 h hx)]) hr, hri.trans ⟨fun h => by rw [hx, h], fun h => (List.cons.inj h).2⟩⟩
  ·exact ⟨false, Ev.step (f := fun _ => some false) (fun k => by rw [e, if_pos ((neq_cond _ _).2 hx)]) (Ev.now false), ⟨(fun h => by cases h), (fun h => absurd (List.cons.inj h).1 hx)⟩⟩
theorem rsame_ev (a b : List S91) (hs : a.length ≤ 1099511627776) : ∃ r, Ev (fun k => chanceryref1_SameAttrs.f k a b) r ∧ (r = true ↔ a = b) := by
 by_cases hl : a.length = b.length
 ·obtain ⟨r, hr, hri⟩ := rsame_l0 a b hs hl a.length 0 (by omega)
  refine ⟨r, Ev.congr (fun k => ?_) hr, hri⟩
  unfold chanceryref1_SameAttrs.f
  rw [if_pos (by omega)]
  rfl
 ·refine ⟨false, Ev.congr (fun k => ?_) (Ev.now false), ⟨(fun h => by cases h), (fun h => absurd (congrArg List.length h) hl)⟩⟩
  unfold chanceryref1_SameAttrs.f
  rw [if_neg (by omega)]
def StepOK (s : S95) : Prop :=
 (s.f0 = 0 ∧ 1 ≤ s.f1 ∧ s.f1 ≤ 2147483647 ∧ s.f3 = [] ∧ VA true s.f2) ∨ (s.f0 = 1 ∧ s.f1 = 0 ∧ s.f2 = [] ∧ s.f3 ≠ [] ∧ POK s.f3) ∨ (s.f0 = 2 ∧ 1 ≤ s.f1 ∧ s.f1 ≤ 2147483647 ∧ s.f3 = [] ∧ s.f2 = [])
def SSm (s : S95) : Prop := Small s.f2 ∧ FSmall s.f3
theorem va_nil (ch : Bool) : VA ch [] := ⟨(fun x hx => by cases hx), List.Pairwise.nil⟩
theorem len_pos {α : Type} {l : List α} : (l.length : Int) > 0 ↔ l ≠ [] := by
 cases l with
 | nil => simp
 | cons a l => simp
theorem step_ev (s : S95) (hs : SSm s) : ∃ r : Int, Ev (fun k => delta_step.f k s.f0 s.f1 s.f2 s.f3) r ∧ (r = 0 ↔ StepOK s) := by
 obtain ⟨c, hc, hci⟩ := chkc_ev s.f2 hs.1
 obtain ⟨p, hp, hpi⟩ := part_ev s.f3 hs.2
 have j1 : ∀ b : Bool, ∃ r : Int, Ev (fun k => delta_step.j1 k b s.f0 s.f1 s.f2 s.f3) r ∧ (r = 0 ↔ b = false ∧ 1 ≤ s.f1 ∧ s.f1 ≤ 2147483647 ∧ VA true s.f2) := by
  intro b
  cases b with
  | true => exact ⟨4, Ev.step (f := fun _ => some 4) (fun k => by simp only [delta_step.j1]; rw [if_pos trivial]) (Ev.now 4), by simp⟩
  | false =>
   by_cases h1 : s.f1 < 1
   ·exact ⟨2, Ev.step (f := fun _ => some 2) (fun k => by simp only [delta_step.j1]; rw [if_neg (by decide), if_pos h1]) (Ev.now 2), ⟨fun h => by omega, fun h => by omega⟩⟩
   by_cases h2 : s.f1 > 2147483647
   ·exact ⟨2, Ev.step (f := fun _ => some 2) (fun k => by simp only [delta_step.j1]; rw [if_neg (by decide), if_neg h1, if_pos h2]) (Ev.now 2), ⟨fun h => by omega, fun h => by omega⟩⟩
   exact ⟨c, Ev.step (fun k => by simp only [delta_step.j1]; rw [if_neg (by decide), if_neg h1, if_neg h2]) (Ev.bind hc (Ev.now c)), hci.trans ⟨fun h => ⟨rfl, by omega, by omega, h⟩, fun h => h.2.2.2⟩⟩
 have j2 : ∀ b : Bool, ∃ r : Int, Ev (fun k => delta_step.j2 k b s.f0 s.f1 s.f2 s.f3) r ∧ (r = 0 ↔ b = false ∧ s.f3 ≠ [] ∧ POK s.f3) := by
  intro b
  cases b with
  | true => exact ⟨4, Ev.step (f := fun _ => some 4) (fun k => by simp only [delta_step.j2]; rw [if_pos trivial]) (Ev.now 4), by simp⟩
  | false =>
   by_cases h1 : s.f3 = []
   ·exact ⟨11, Ev.step (f := fun _ => some 11) (fun k => by simp only [delta_step.j2]; rw [if_neg (by decide), if_pos (by rw [h1]; rfl)]) (Ev.now 11), ⟨fun h => by omega, fun h => absurd h1 h.2.1⟩⟩
   ·exact ⟨p, Ev.step (fun k => by simp only [delta_step.j2]; rw [if_neg (by decide), if_neg (by have := len_pos.2 h1; omega)]) (Ev.bind hp (Ev.now p)), hpi.trans ⟨fun h => ⟨rfl, h1, h⟩, fun h => h.2.2⟩⟩
 have kc : ∀ (f : Nat → Option Int), (∀ k, f (k + 1) = delta_step.j0 (k + 1) s.f0 true s.f0 s.f1 s.f2 s.f3) → (s.f0 = 0 ∨ s.f0 = 2) → ∃ r : Int, Ev f r ∧ (r = 0 ↔ StepOK s) := by
  intro f hf hk
  by_cases h3 : s.f3 = []
  ·by_cases hcut : s.f0 = 2
   ·obtain ⟨r, hr, hri⟩ := j1 (decide ((s.f2.length : Int) > 0))
    refine ⟨r, Ev.step (fun k => by rw [hf]; simp only [delta_step.j0]; rw [if_pos trivial, if_neg (by rw [h3]; decide), if_pos hcut]) hr, hri.trans ⟨fun h => ?_, fun h => ?_⟩⟩
    ·have h2 : s.f2 = [] := Classical.byContradiction (fun hn => absurd h.1 (by rw [decide_eq_true (len_pos.2 hn)]; decide))
     exact .inr (.inr ⟨hcut, h.2.1, h.2.2.1, h3, h2⟩)
    ·rcases h with h | h | h
     ·omega
     ·omega
     ·exact ⟨by rw [h.2.2.2.2]; rfl, h.2.1, h.2.2.1, by rw [h.2.2.2.2]; exact va_nil _⟩
   ·obtain ⟨r, hr, hri⟩ := j1 false
    refine ⟨r, Ev.step (fun k => by rw [hf]; simp only [delta_step.j0]; rw [if_pos trivial, if_neg (by rw [h3]; decide), if_neg hcut]) hr, hri.trans ⟨fun h => .inl ⟨by omega, h.2.1, h.2.2.1, h3, h.2.2.2⟩, fun h => ?_⟩⟩
    rcases h with h | h | h
    ·exact ⟨rfl, h.2.1, h.2.2.1, h.2.2.2.2⟩
    ·omega
    ·omega
  ·obtain ⟨r, hr, hri⟩ := j1 true
   refine ⟨r, Ev.step (fun k => by rw [hf]; simp only [delta_step.j0]; rw [if_pos trivial, if_pos (len_pos.2 h3)]) hr, hri.trans ⟨(fun h => by cases h.1), fun h => ?_⟩⟩
   rcases h with h | h | h
   ·exact absurd h.2.2.2.1 h3
   ·omega
   ·exact absurd h.2.2.2.1 h3
 by_cases h0 : s.f0 = 0
 ·exact kc _ (fun k => by unfold delta_step.f; rw [if_pos h0, h0]; rfl) (.inl h0)
 by_cases h2 : s.f0 = 2
 ·exact kc _ (fun k => by unfold delta_step.f; rw [if_neg h0, h2]; rfl) (.inr h2)
 have e : ∀ k, delta_step.f (k + 1) s.f0 s.f1 s.f2 s.f3 = if s.f0 = 1 then (if s.f1 = 0 then delta_step.j2 k (decide ((s.f2.length : Int) > 0)) s.f0 s.f1 s.f2 s.f3 else delta_step.j2 k true s.f0 s.f1 s.f2 s.f3) else some 8 := fun k => by
  unfold delta_step.f
  rw [if_neg h0, show (s.f0 == 2) = false from beq_eq_false_iff_ne.mpr h2]
  simp only [delta_step.j0]
  rw [if_neg (by decide)]
 by_cases h1 : s.f0 = 1
 ·by_cases hn : s.f1 = 0
  ·obtain ⟨r, hr, hri⟩ := j2 (decide ((s.f2.length : Int) > 0))
   refine ⟨r, Ev.step (fun k => by rw [e, if_pos h1, if_pos hn]) hr, hri.trans ⟨fun h => ?_, fun h => ?_⟩⟩
   ·have h2 : s.f2 = [] := Classical.byContradiction (fun hn => absurd h.1 (by rw [decide_eq_true (len_pos.2 hn)]; decide))
    exact .inr (.inl ⟨h1, hn, h2, h.2.1, h.2.2⟩)
   ·rcases h with h | h | h
    ·omega
    ·exact ⟨by rw [h.2.2.1]; rfl, h.2.2.2.1, h.2.2.2.2⟩
    ·omega
  ·obtain ⟨r, hr, hri⟩ := j2 true
   refine ⟨r, Ev.step (fun k => by rw [e, if_pos h1, if_neg hn]) hr, hri.trans ⟨(fun h => by cases h.1), fun h => ?_⟩⟩
   rcases h with h | h | h <;> omega
 ·refine ⟨8, Ev.step (f := fun _ => some 8) (fun k => by rw [e, if_neg h1]) (Ev.now 8), ⟨fun h => by omega, fun h => ?_⟩⟩
  rcases h with h | h | h <;> omega
def Adj (p s : S95) : Prop := ¬ (p.f0 = s.f0 ∧ (s.f0 ≠ 0 ∨ p.f2 = s.f2)) ∧ ¬ (p.f0 = 2 ∧ s.f0 = 1)
def ordOK : Option S95 → List S95 → Prop
 | _, [] => True
 | p, s :: r => (∀ q, p = some q → Adj q s) ∧ ordOK (some s) r
def oldS (s : S95) : Int := if s.f0 = 1 then 0 else s.f1
def newS (s : S95) : Int := if s.f0 = 2 then 0 else if s.f0 = 1 then (s.f3.length : Int) else s.f1
def old : List S95 → Int
 | [] => 0
 | s :: r => oldS s + old r
def new : List S95 → Int
 | [] => 0
 | s :: r => newS s + new r
structure DOK (d : List S95) : Prop where
 ok : ∀ s ∈ d, StepOK s
 ord : ordOK none d
 old : old d ≤ 2147483647
 new : new d ≤ 2147483647
def DSm (d : List S95) : Prop := d.length ≤ 1073741824 ∧ ∀ s ∈ d, SSm s
theorem rd95_mem {l : List S95} {i : Nat} (h : i < l.length) : rd_T95 l (i : Int) ∈ l := by
 simp only [rd_T95, Int.toNat_natCast, List.getD_eq_getElem?_getD, List.getElem?_eq_getElem h, Option.getD_some]
 exact List.getElem_mem h
theorem oldS_nn {s : S95} (h : StepOK s) : 0 ≤ oldS s ∧ oldS s ≤ 2147483647 := by
 unfold oldS
 rcases h with h | h | h <;> split <;> omega
theorem newS_nn {s : S95} (h : StepOK s) (hs : SSm s) : 0 ≤ newS s ∧ newS s ≤ 2147483647 := by
 have := hs.2.1
 unfold newS
 rcases h with h | h | h
 ·rw [if_neg (by omega), if_neg (by omega)]; omega
 ·rw [if_neg (by omega), if_pos h.1]; omega
 ·rw [if_pos h.1]; omega
theorem old_nn : ∀ {d : List S95}, (∀ s ∈ d, StepOK s) → 0 ≤ old d
 | [], _ => Int.le_refl _
 | s :: r, h => by
  have h1 := oldS_nn (h s List.mem_cons_self)
  have h2 := old_nn (d := r) (fun x hx => h x (List.mem_cons_of_mem _ hx))
  rw [old]
  omega
theorem new_nn : ∀ {d : List S95}, (∀ s ∈ d, StepOK s) → (∀ s ∈ d, SSm s) → 0 ≤ new d
 | [], _, _ => Int.le_refl _
 | s :: r, h, hs => by
  have h1 := newS_nn (h s List.mem_cons_self) (hs s List.mem_cons_self)
  have h2 := new_nn (d := r) (fun x hx => h x (List.mem_cons_of_mem _ hx)) (fun x hx => hs x (List.mem_cons_of_mem _ hx))
  rw [new]
  omega
theorem mn_cap {a : Int} : mn a 2147483648 = if a ≤ 2147483648 then a else 2147483648 := by unfold mn; split <;> split <;> omega
def prev (d : List S95) : Nat → Option S95
 | 0 => none
 | i + 1 => some (rd_T95 d (i : Int))
theorem adj_prev {d : List S95} {i : Nat} (h0 : 0 < i) (P : Prop) : (∀ q, prev d i = some q → Adj q (rd_T95 d (i : Int))) ↔ Adj (rd_T95 d ((i : Int) - 1)) (rd_T95 d (i : Int)) := by
 obtain ⟨j, rfl⟩ : ∃ j, i = j + 1 := ⟨i - 1, by omega⟩
 rw [show ((j + 1 : Nat) : Int) - 1 = (j : Int) by omega]
 exact ⟨fun h => h _ rfl, fun h q hq => by cases hq; exact h⟩
def RestOK (p : Option S95) (r : List S95) (b a : Int) : Prop := (∀ s ∈ r, StepOK s) ∧ ordOK p r ∧ b + old r ≤ 2147483647 ∧ a + new r ≤ 2147483647
theorem rest_cons {p : Option S95} {s : S95} {r : List S95} {b a : Int} : RestOK p (s :: r) b a ↔ StepOK s ∧ (∀ q, p = some q → Adj q s) ∧ RestOK (some s) r (b + oldS s) (a + newS s) := by
 unfold RestOK
 rw [ordOK, old, new]
 constructor
 ·rintro ⟨h1, ⟨h2, h3⟩, h4, h5⟩
  exact ⟨h1 s List.mem_cons_self, h2, fun x hx => h1 x (List.mem_cons_of_mem _ hx), h3, by omega, by omega⟩
 ·rintro ⟨h1, h2, h3, h4, h5, h6⟩
  exact ⟨fun x hx => by rcases List.mem_cons.1 hx with rfl | hx; exact h1; exact h3 x hx, ⟨h2, h4⟩, by omega, by omega⟩
theorem rest_cap {p : Option S95} {r : List S95} {b a b' a' : Int} (hs : ∀ s ∈ r, SSm s) (hb : b = b' ∨ (2147483647 < b ∧ 2147483647 < b')) (ha : a = a' ∨ (2147483647 < a ∧ 2147483647 < a')) : RestOK p r b a ↔ RestOK p r b' a' := by
 unfold RestOK
 constructor
 ·rintro ⟨h1, h2, h3, h4⟩
  have := old_nn h1
  have := new_nn h1 hs
  exact ⟨h1, h2, by omega, by omega⟩
 ·rintro ⟨h1, h2, h3, h4⟩
  have := old_nn h1
  have := new_nn h1 hs
  exact ⟨h1, h2, by omega, by omega⟩
theorem size_is (s : S95) : delta_size.f s.f0 s.f1 s.f2 s.f3 = some (if s.f0 = 1 then (s.f3.length : Int) else s.f1) := by
 unfold delta_size.f
 split <;> rfl
theorem w64 {i : Int} (h0 : -4611686018427387904 ≤ i) (h : i ≤ 4611686018427387904) : wrap64 i = i := by unfold wrap64; omega
theorem check_l0 (d : List S95) (hs : DSm d) (n : Nat) : ∀ (i : Nat) (b a : Int), i + n = d.length → 0 ≤ b → b ≤ 2147483648 → 0 ≤ a → a ≤ 2147483648 →
  ∃ r : Int, Ev (fun k => delta_Check.l0 k d b a d (d.length : Int) (i : Int)) r ∧ (r = 0 ↔ RestOK (prev d i) (d.drop i) b a) := by
 have hs1 := hs.1
 induction n with
 | zero =>
  intro i b a hi hb0 hb ha0 ha
  have e : ∀ k, delta_Check.l0 (k + 1) d b a d (d.length : Int) (i : Int) = if b > 2147483647 then some 3 else if a > 2147483647 then some 3 else some 0 := fun k => by
   simp only [delta_Check.l0]
   rw [if_neg (by omega)]
  rw [List.drop_eq_nil_of_le (by omega)]
  have hR : RestOK (prev d i) [] b a ↔ b ≤ 2147483647 ∧ a ≤ 2147483647 := ⟨fun h => by have := h.2.2; simp [old, new] at this; exact this, fun h => ⟨(fun s hs => by cases hs), trivial, by simp [old]; exact h.1, by simp [new]; exact h.2⟩⟩
  rw [hR]
  by_cases h1 : b > 2147483647
  ·exact ⟨3, Ev.step (f := fun _ => some 3) (fun k => by rw [e, if_pos h1]) (Ev.now 3), ⟨fun h => by omega, fun h => by omega⟩⟩
  by_cases h2 : a > 2147483647
  ·exact ⟨3, Ev.step (f := fun _ => some 3) (fun k => by rw [e, if_neg h1, if_pos h2]) (Ev.now 3), ⟨fun h => by omega, fun h => by omega⟩⟩
  exact ⟨0, Ev.step (f := fun _ => some 0) (fun k => by rw [e, if_neg h1, if_neg h2]) (Ev.now 0), ⟨fun h => by omega, fun h => rfl⟩⟩
 | succ n ih =>
  intro i b a hi hb0 hb ha0 ha
  have hlt : i < d.length := by omega
  have hsm := hs.2 _ (rd95_mem hlt)
  rw [drop_T95 d i hlt]
  obtain ⟨r0, hr0, hri0⟩ := step_ev _ hsm
  obtain ⟨s, hsd⟩ : ∃ s, s = rd_T95 d (i : Int) := ⟨_, rfl⟩
  rw [← hsd] at hsm hr0 hri0
  rw [rest_cons, ← hsd]
  have hrs : ∀ x ∈ d.drop (i + 1), SSm x := fun x hx => hs.2 x (List.mem_of_mem_drop hx)
  have j1 : StepOK s → ∃ r : Int, Ev (fun k => delta_Check.j1 k d b a d (d.length : Int) (i : Int) s.f0 s.f1 s.f2 s.f3) r ∧ (r = 0 ↔ RestOK (some s) (d.drop (i + 1)) (b + oldS s) (a + newS s)) := by
   intro hok
   have ho := oldS_nn hok
   have hn := newS_nn hok hsm
   have pe : prev d (i + 1) = some s := by rw [prev, hsd]
   by_cases h1 : s.f0 = 1
   ·have h2 : ¬ s.f0 = 2 := by omega
    have e1 : oldS s = 0 := if_pos h1
    have e2 : newS s = (s.f3.length : Int) := by unfold newS; rw [if_neg h2, if_pos h1]
    obtain ⟨r, hr, hri⟩ := ih (i + 1) b (mn (a + (s.f3.length : Int)) 2147483648) (by omega) hb0 hb (by rw [mn_cap]; split <;> omega) (by rw [mn_cap]; split <;> omega)
    refine ⟨r, Ev.step (fun k => by
     simp only [delta_Check.j1]
     rw [if_pos h1, if_neg h2, size_is, Option.bind_some, if_pos h1, wrap_up (by omega) (by omega), w64 (by omega) (by omega)]
     rfl) hr, hri.trans ?_⟩
    rw [pe, e1, e2]
    exact rest_cap hrs (by omega) (by rw [mn_cap]; split <;> omega)
   by_cases h2 : s.f0 = 2
   ·have e1 : oldS s = s.f1 := if_neg h1
    have e2 : newS s = 0 := if_pos h2
    obtain ⟨r, hr, hri⟩ := ih (i + 1) (mn (b + s.f1) 2147483648) a (by omega) (by rw [mn_cap]; split <;> omega) (by rw [mn_cap]; split <;> omega) ha0 ha
    refine ⟨r, Ev.step (fun k => by
     simp only [delta_Check.j1]
     rw [if_neg h1, if_pos h2, wrap_up (by omega) (by omega), w64 (by omega) (by omega)]
     rfl) hr, hri.trans ?_⟩
    rw [pe, e1, e2]
    exact rest_cap hrs (by rw [mn_cap]; split <;> omega) (by omega)
   ·have e1 : oldS s = s.f1 := if_neg h1
    have e2 : newS s = s.f1 := by unfold newS; rw [if_neg h2, if_neg h1]
    obtain ⟨r, hr, hri⟩ := ih (i + 1) (mn (b + s.f1) 2147483648) (mn (a + s.f1) 2147483648) (by omega) (by rw [mn_cap]; split <;> omega) (by rw [mn_cap]; split <;> omega) (by rw [mn_cap]; split <;> omega) (by rw [mn_cap]; split <;> omega)
    refine ⟨r, Ev.step (fun k => by
     simp only [delta_Check.j1]
     rw [if_neg h1, if_neg h2, size_is, Option.bind_some, if_neg h1, wrap_up (by omega) (by omega), w64 (i := b + s.f1) (by omega) (by omega), w64 (by omega) (by omega)]
     rfl) hr, hri.trans ?_⟩
    rw [pe, e1, e2]
    exact rest_cap hrs (by rw [mn_cap]; split <;> omega) (by rw [mn_cap]; split <;> omega)
  have e0 : ∀ k, delta_Check.l0 (k + 1) d b a d (d.length : Int) (i : Int) = (delta_step.f k s.f0 s.f1 s.f2 s.f3).bind fun t => if t = 0 then (if (i : Int) > 0 then
    (if (rd_T95 d ((i : Int) - 1)).f0 = s.f0 then (if s.f0 = 0 then (attr_Same.f k (rd_T95 d ((i : Int) - 1)).f2 s.f2).bind fun t => (if t = true then some 5 else if (rd_T95 d ((i : Int) - 1)).f0 = 2 then (if s.f0 = 1 then some 5 else delta_Check.j1 k d b a d (d.length : Int) (i : Int) s.f0 s.f1 s.f2 s.f3) else delta_Check.j1 k d b a d (d.length : Int) (i : Int) s.f0 s.f1 s.f2 s.f3) else some 5)
     else (if (rd_T95 d ((i : Int) - 1)).f0 = 2 then (if s.f0 = 1 then some 5 else delta_Check.j1 k d b a d (d.length : Int) (i : Int) s.f0 s.f1 s.f2 s.f3) else delta_Check.j1 k d b a d (d.length : Int) (i : Int) s.f0 s.f1 s.f2 s.f3))
    else delta_Check.j1 k d b a d (d.length : Int) (i : Int) s.f0 s.f1 s.f2 s.f3) else some t := fun k => by
   simp only [delta_Check.l0]
   rw [if_pos (by omega), if_pos (by omega), if_pos (by omega), ← hsd]
   by_cases h0 : (i : Int) > 0
   ·rw [wrap_dn (by omega) (by omega), if_pos (show (0 : Int) ≤ (i : Int) - 1 by omega), if_pos (show (i : Int) - 1 < (d.length : Int) by omega)]
   ·simp only [if_neg h0]
  have bad : ∀ (c : Int), c ≠ 0 → Ev (fun k => delta_Check.l0 k d b a d (d.length : Int) (i : Int)) c → ¬ (StepOK s ∧ (∀ q, prev d i = some q → Adj q s) ∧ RestOK (some s) (d.drop (i + 1)) (b + oldS s) (a + newS s)) →
    ∃ r : Int, Ev (fun k => delta_Check.l0 k d b a d (d.length : Int) (i : Int)) r ∧ (r = 0 ↔ (StepOK s ∧ (∀ q, prev d i = some q → Adj q s) ∧ RestOK (some s) (d.drop (i + 1)) (b + oldS s) (a + newS s))) := fun c hc he hn => ⟨c, he, ⟨fun h => absurd h hc, fun h => absurd h hn⟩⟩
  by_cases hz : r0 = 0
  rotate_left
  ·exact bad r0 hz (Ev.step e0 (Ev.bind hr0 (Ev.congr (fun k => by rw [if_neg hz]) (Ev.now r0)))) (fun h => hz (hri0.2 h.1))
  have hok := hri0.1 hz
  subst hz
  obtain ⟨r, hr, hri⟩ := j1 hok
  by_cases hi0 : i = 0
  ·subst hi0
   exact ⟨r, Ev.step e0 (Ev.bind hr0 (Ev.congr (fun k => by rw [if_pos rfl, if_neg (by omega)]) hr)), hri.trans ⟨fun h => ⟨hok, (fun q hq => by cases hq), h⟩, fun h => h.2.2⟩⟩
  have hap := adj_prev (d := d) (i := i) (by omega) True
  rw [← hsd] at hap
  rw [hap] at bad ⊢
  obtain ⟨p, hp⟩ : ∃ p, p = rd_T95 d ((i : Int) - 1) := ⟨_, rfl⟩
  rw [← hp] at hap bad e0 ⊢
  have hpsm : SSm p := by
   have := hs.2 _ (rd95_mem (l := d) (i := i - 1) (by omega))
   rw [show ((i - 1 : Nat) : Int) = (i : Int) - 1 by omega, ← hp] at this
   exact this
  have good : Adj p s → (∀ k, delta_Check.l0 (k + 1) d b a d (d.length : Int) (i : Int) = (delta_step.f k s.f0 s.f1 s.f2 s.f3).bind fun t => if t = 0 then delta_Check.j1 k d b a d (d.length : Int) (i : Int) s.f0 s.f1 s.f2 s.f3 else some t) → ∃ r : Int, Ev (fun k => delta_Check.l0 k d b a d (d.length : Int) (i : Int)) r ∧ (r = 0 ↔ (StepOK s ∧ Adj p s ∧ RestOK (some s) (d.drop (i + 1)) (b + oldS s) (a + newS s))) :=
   fun h1 h2 => ⟨r, Ev.step h2 (Ev.bind hr0 (Ev.congr (fun k => by rw [if_pos rfl]) hr)), hri.trans ⟨fun h => ⟨hok, h1, h⟩, fun h => h.2.2⟩⟩
  have hpos : (i : Int) > 0 := by omega
  by_cases hk : p.f0 = s.f0
  ·by_cases h0 : s.f0 = 0
   ·obtain ⟨c, hc, hci⟩ := asame_ev p.f2 s.f2 hpsm.1.1
    cases c with
    | true =>
     refine bad 5 (by decide) (Ev.step e0 (Ev.bind hr0 (Ev.congr (fun k => by rw [if_pos rfl, if_pos hpos, if_pos hk, if_pos h0]) (Ev.bind hc (Ev.congr (fun k => by rw [if_pos rfl]) (Ev.now 5)))))) (fun h => h.2.1.1 ⟨hk, .inr (hci.1 rfl)⟩)
    | false =>
     have hne : p.f2 ≠ s.f2 := fun h => by have := hci.2 h; cases this
     refine ⟨r, Ev.step e0 (Ev.bind hr0 (Ev.congr (fun k => by rw [if_pos rfl, if_pos hpos, if_pos hk, if_pos h0]) (Ev.bind hc (Ev.congr (fun k => by rw [if_neg (by decide), if_neg (by omega)]) hr)))), hri.trans ⟨fun h => ⟨hok, ⟨fun h => ?_, fun h => by omega⟩, h⟩, fun h => h.2.2⟩⟩
     rcases h.2 with h | h
     ·exact h h0
     ·exact hne h
   ·refine bad 5 (by decide) (Ev.step e0 (Ev.bind hr0 (Ev.congr (fun k => by rw [if_pos rfl, if_pos hpos, if_pos hk, if_neg h0]) (Ev.now 5)))) (fun h => h.2.1.1 ⟨hk, .inl h0⟩)
  ·by_cases hc2 : p.f0 = 2 ∧ s.f0 = 1
   ·refine bad 5 (by decide) (Ev.step e0 (Ev.bind hr0 (Ev.congr (fun k => by rw [if_pos rfl, if_pos hpos, if_neg hk, if_pos hc2.1, if_pos hc2.2]) (Ev.now 5)))) (fun h => h.2.1.2 hc2)
   ·refine good ⟨fun h => hk h.1, hc2⟩ (fun k => ?_)
    rw [e0]
    congr 1
    funext t
    by_cases ht : t = 0
    ·rw [if_pos ht, if_pos ht, if_pos hpos, if_neg hk]
     by_cases h2 : p.f0 = 2
     ·rw [if_pos h2, if_neg (fun h => hc2 ⟨h2, h⟩)]
     ·rw [if_neg h2]
    ·rw [if_neg ht, if_neg ht]
theorem dok_rest (d : List S95) : RestOK none d 0 0 ↔ DOK d := ⟨fun h => ⟨h.1, h.2.1, by have := h.2.2.1; omega, by have := h.2.2.2; omega⟩, fun h => ⟨h.ok, h.ord, by have := h.old; omega, by have := h.new; omega⟩⟩
theorem check_ev (d : List S95) (hs : DSm d) : ∃ r : Int, Ev (fun k => delta_Check.f k d) r ∧ (r = 0 ↔ DOK d) := by
 obtain ⟨r, hr, hri⟩ := check_l0 d hs d.length 0 0 0 (by omega) (by omega) (by omega) (by omega) (by omega)
 exact ⟨r, hr, hri.trans (dok_rest d)⟩
theorem lengths_l0 (d : List S95) (hs : DSm d) (hok : ∀ s ∈ d, StepOK s) (n : Nat) : ∀ (i : Nat) (b a : Int), i + n = d.length → 0 ≤ b → 0 ≤ a → b + old (d.drop i) ≤ 2147483647 → a + new (d.drop i) ≤ 2147483647 →
  Ev (fun k => delta_lengths.l0 k b a d (d.length : Int) (i : Int)) (b + old (d.drop i), a + new (d.drop i)) := by
 have hs1 := hs.1
 induction n with
 | zero =>
  intro i b a hi hb0 ha0 hb ha
  rw [List.drop_eq_nil_of_le (by omega), old, new, Int.add_zero, Int.add_zero]
  refine Ev.step (f := fun _ => some (b, a)) (fun k => ?_) (Ev.now _)
  simp only [delta_lengths.l0]
  rw [if_neg (by omega)]
 | succ n ih =>
  intro i b a hi hb0 ha0 hb ha
  have hlt : i < d.length := by omega
  have hsm := hs.2 _ (rd95_mem hlt)
  have hk := hok _ (rd95_mem hlt)
  rw [drop_T95 d i hlt, old, new] at *
  obtain ⟨s, hsd⟩ : ∃ s, s = rd_T95 d (i : Int) := ⟨_, rfl⟩
  rw [← hsd] at hsm hk hb ha ⊢
  have h1 := oldS_nn hk
  have h2 := newS_nn hk hsm
  have h3 := old_nn (d := d.drop (i + 1)) (fun x hx => hok x (List.mem_of_mem_drop hx))
  have h4 := new_nn (d := d.drop (i + 1)) (fun x hx => hok x (List.mem_of_mem_drop hx)) (fun x hx => hs.2 x (List.mem_of_mem_drop hx))
  have := ih (i + 1) (b + oldS s) (a + newS s) (by omega) (by omega) (by omega) (by omega) (by omega)
  rw [Int.add_assoc, Int.add_assoc] at this
  refine Ev.step (fun k => ?_) this
  simp only [delta_lengths.l0]
  rw [if_pos (by omega), if_pos (by omega), if_pos (by omega), ← hsd, size_is]
  simp only [Option.bind_some]
  have hl : s.f0 = 1 → oldS s = 0 := fun h => if_pos h
  have hl2 : s.f0 ≠ 1 → oldS s = s.f1 := fun h => if_neg h
  have hn2 : s.f0 = 2 → newS s = 0 := fun h => if_pos h
  have hn1 : s.f0 ≠ 2 → s.f0 = 1 → newS s = (s.f3.length : Int) := fun h h' => by unfold newS; rw [if_neg h, if_pos h']
  have hn0 : s.f0 ≠ 2 → s.f0 ≠ 1 → newS s = s.f1 := fun h h' => by unfold newS; rw [if_neg h, if_neg h']
  have wi : wrap64 ((i : Int) + 1) = ((i + 1 : Nat) : Int) := by rw [wrap_up (by omega) (by omega)]; rfl
  rw [wi]
  by_cases g1 : s.f0 = 1
  ·have g2 : ¬ s.f0 = 2 := by omega
   rw [if_pos g1, if_neg g2, if_pos g1, ← hn1 g2 g1, w64 (by omega) (by omega), hl g1, Int.add_zero]
  ·by_cases g2 : s.f0 = 2
   ·rw [if_neg g1, if_pos g2, ← hl2 g1, w64 (by omega) (by omega), hn2 g2, Int.add_zero]
   ·rw [if_neg g1, if_neg g2, if_neg g1, w64 (i := b + s.f1) (by rw [← hl2 g1]; omega) (by rw [← hl2 g1]; omega), w64 (i := a + s.f1) (by rw [← hl2 g1]; omega) (by rw [← hn0 g2 g1]; omega), ← hn0 g2 g1, hl2 g1, hn0 g2 g1]
theorem lengths_ev (d : List S95) (hs : DSm d) (h : DOK d) : Ev (fun k => delta_lengths.f k d) (old d, new d) := by
 have := lengths_l0 d hs h.ok d.length 0 0 0 (by omega) (by omega) (by omega) (by have := h.old; simpa using this) (by have := h.new; simpa using this)
 exact Ev.congr (f := fun k => delta_lengths.l0 k 0 0 d (d.length : Int) 0) (fun k => rfl) (by simpa using this)
inductive Un where
 | keep (t : List S91)
 | cut
 | add (x : S26)
def us (s : S95) : List Un := if s.f0 = 0 then List.replicate s.f1.toNat (.keep s.f2) else if s.f0 = 1 then s.f3.map .add else List.replicate s.f1.toNat .cut
def units (d : List S95) : List Un := d.flatMap us
def app (t : List S91) (x : S26) : S26 := ⟨x.f0, x.f1, mrg rawE x.f2 t⟩
def run : List S26 → List Un → List S26 × List S26
 | f, [] => ([], f)
 | f, .add x :: u => (x :: (run f u).1, (run f u).2)
 | [], .keep _ :: u => run [] u
 | x :: f, .keep t :: u => (app t x :: (run f u).1, (run f u).2)
 | [], .cut :: u => run [] u
 | _ :: f, .cut :: u => run f u
theorem units_nil : units [] = [] := rfl
theorem units_cons (s : S95) (d : List S95) : units (s :: d) = us s ++ units d := rfl
theorem units_app (a b : List S95) : units (a ++ b) = units a ++ units b := by simp [units]
theorem run_app (a b : List Un) : ∀ f : List S26, run f (a ++ b) = ((run f a).1 ++ (run (run f a).2 b).1, (run (run f a).2 b).2) := by
 induction a with
 | nil => intro f; rfl
 | cons x a ih =>
  intro f
  cases x with
  | add x => simp only [List.cons_append, run, ih]
  | keep t => cases f <;> simp only [List.cons_append, run, ih]
  | cut => cases f <;> simp only [List.cons_append, run, ih]
theorem run_keeps (t : List S91) : ∀ (n : Nat) (f : List S26), n ≤ f.length → run f (List.replicate n (.keep t)) = ((f.take n).map (app t), f.drop n)
 | 0, f, _ => by simp [run]
 | n + 1, [], h => by simp at h
 | n + 1, x :: f, h => by rw [List.replicate_succ, run, run_keeps t n f (by simpa using h)]; simp
theorem run_cuts : ∀ (n : Nat) (f : List S26), n ≤ f.length → run f (List.replicate n .cut) = ([], f.drop n)
 | 0, f, _ => by simp [run]
 | n + 1, [], h => by simp at h
 | n + 1, x :: f, h => by rw [List.replicate_succ, run, run_cuts n f (by simpa using h)]; simp
theorem run_adds : ∀ (l f : List S26), run f (l.map .add) = (l, f)
 | [], f => rfl
 | x :: l, f => by rw [List.map_cons, run, run_adds l f]
def LB (n : Nat) (f : List S26) : Prop := f.length ≤ n ∧ ∀ x ∈ f, x.f2.length ≤ n
theorem pok_mem {f : List S26} : POK f ↔ ∀ x ∈ f, ElemOK x := by
 constructor
 ·intro h x hx
  obtain ⟨i, h0, h1, rfl⟩ := memf_rd hx
  exact h i h0 h1
 ·intro h j h0 h1
  exact h _ (rdf_mem h0 h1)
theorem va_small {ch : Bool} {l : List S91} (h : VA ch l) (hl : l.length ≤ 1099511627776) : Small l := by
 refine ⟨hl, fun x hx => ?_⟩
 obtain ⟨h1, h2⟩ := h.1 x hx
 have := h1.2.1
 refine ⟨by omega, ?_⟩
 rcases h2 with h2 | ⟨_, h2⟩
 ·have := h2.2.1; omega
 ·omega
theorem fsmall {n : Nat} {f : List S26} (h : POK f) (hl : LB n f) (hn : n ≤ 1073741824) : FSmall f := by
 refine ⟨Nat.le_trans hl.1 hn, fun x hx => ?_⟩
 have h1 := hl.2 x hx
 exact ⟨va_small (pok_mem.1 h x hx).2 (by omega), by omega⟩
def DB (n : Nat) (d : List S95) : Prop := d.length ≤ n ∧ ∀ s ∈ d, s.f2.length ≤ n ∧ LB n s.f3
theorem stepok_small {n : Nat} {s : S95} (h : StepOK s) (h1 : s.f2.length ≤ n) (h2 : LB n s.f3) (hn : n ≤ 1073741824) : SSm s := by
 rcases h with h | h | h
 ·exact ⟨va_small h.2.2.2.2 (by omega), by rw [h.2.2.2.1]; exact ⟨Nat.zero_le _, fun x hx => by cases hx⟩⟩
 ·exact ⟨by rw [h.2.2.1]; exact ⟨Nat.zero_le _, fun x hx => by cases hx⟩, fsmall h.2.2.2.2 h2 hn⟩
 ·exact ⟨by rw [h.2.2.2.2]; exact ⟨Nat.zero_le _, fun x hx => by cases hx⟩, by rw [h.2.2.2.1]; exact ⟨Nat.zero_le _, fun x hx => by cases hx⟩⟩
theorem dsm {n : Nat} {d : List S95} (h : ∀ s ∈ d, StepOK s) (hd : DB n d) (hn : n ≤ 1073741824) : DSm d :=
 ⟨Nat.le_trans hd.1 hn, fun s hs => stepok_small (h s hs) (hd.2 s hs).1 (hd.2 s hs).2 hn⟩
theorem changed_l0 (t : List S91) (l : List S26) (ht : t.length ≤ 1073741824) (hl : l.length ≤ 1073741824) (hx : ∀ x ∈ l, x.f2.length ≤ 1073741824) (n : Nat) : ∀ i : Nat, i + n = l.length →
  Ev (fun k => delta_changed.l0 k t ((l.take i).map (app t) ++ List.replicate (l.length - i) z26) l (l.length : Int) (i : Int)) (l.map (app t)) := by
 induction n with
 | zero =>
  intro i hi
  refine Ev.step (f := fun _ => some (l.map (app t))) (fun k => ?_) (Ev.now _)
  simp only [delta_changed.l0]
  rw [if_neg (by omega), show i = l.length by omega]
  simp
 | succ n ih =>
  intro i hi
  have hlt : i < l.length := by omega
  refine Ev.step (fun k => ?_) (ih (i + 1) (by omega))
  have hlen : ((l.take i).map (app t) ++ List.replicate (l.length - i) z26).length = l.length := by simp; omega
  have hxe : rd_T26 l (i : Int) = l[i]'hlt := by simp [rd_T26, List.getD_eq_getElem?_getD, List.getElem?_eq_getElem hlt]
  have h2 := hx _ (rdf_mem (l := l) (i := (i : Int)) (by omega) (by omega))
  simp only [delta_changed.l0]
  rw [if_pos (by omega), if_pos (by omega), if_pos (by omega), raw_f h2 ht, Option.bind_some, if_pos (by rw [hlen]; omega), wrap_up (by omega) (by omega), show ((i : Int) + 1) = ((i + 1 : Nat) : Int) from by omega]
  have hset : ((l.take i).map (app t) ++ List.replicate (l.length - i) z26).set (i : Int).toNat (⟨(rd_T26 l (i : Int)).f0, (rd_T26 l (i : Int)).f1, mrg rawE (rd_T26 l (i : Int)).f2 t⟩ : S26) = (l.take (i + 1)).map (app t) ++ List.replicate (l.length - (i + 1)) z26 := by
   rw [Int.toNat_natCast]
   have hn : l.length - i = (l.length - (i + 1)) + 1 := by omega
   rw [hn, List.replicate_succ, List.set_append_right _ _ (by simp; omega)]
   have e1 : i - ((l.take i).map (app t)).length = 0 := by simp; omega
   have ht : l.take (i + 1) = l.take i ++ [l[i]'hlt] := by
    rw [List.take_add_one, List.getElem?_eq_getElem hlt]
    rfl
   rw [e1, List.set_cons_zero, hxe, ht, List.map_append, List.append_assoc]
   rfl
  rw [hset]
theorem changed_ev (t : List S91) (l : List S26) (ht : t.length ≤ 1073741824) (hl : l.length ≤ 1073741824) (hx : ∀ x ∈ l, x.f2.length ≤ 1073741824) : Ev (fun k => delta_changed.f k l t) (l.map (app t)) := by
 refine Ev.congr (fun k => ?_) (changed_l0 t l ht hl hx l.length 0 (by omega))
 unfold delta_changed.f
 rw [if_pos (by omega), if_pos (by omega)]
 simp
theorem us_keep {s : S95} (h : s.f0 = 0) : us s = List.replicate s.f1.toNat (.keep s.f2) := if_pos h
theorem us_add {s : S95} (h : s.f0 = 1) : us s = s.f3.map .add := by unfold us; rw [if_neg (by omega), if_pos h]
theorem us_cut {s : S95} (h : s.f0 = 2) : us s = List.replicate s.f1.toNat .cut := by unfold us; rw [if_neg (by omega), if_neg (by omega)]
theorem raw_l0 (d : List S95) (hok : ∀ s ∈ d, StepOK s) (hd : DB 1073741824 d) (n : Nat) : ∀ (i : Nat) (f acc : List S26), i + n = d.length → LB 1073741824 f → old (d.drop i) ≤ (f.length : Int) → (acc.length : Int) + new (d.drop i) ≤ 1073741824 →
  Ev (fun k => delta_Raw.l0 k f acc d (d.length : Int) (i : Int)) (acc ++ (run f (units (d.drop i))).1) := by
 have hs := dsm hok hd (Nat.le_refl _)
 have hs1 := hs.1
 induction n with
 | zero =>
  intro i f acc hi hf ho ha
  rw [List.drop_eq_nil_of_le (by omega), units_nil, run, List.append_nil]
  refine Ev.step (f := fun _ => some acc) (fun k => ?_) (Ev.now _)
  simp only [delta_Raw.l0]
  rw [if_neg (by omega)]
 | succ n ih =>
  intro i f acc hi hf ho ha
  have hlt : i < d.length := by omega
  have hsm := hs.2 _ (rd95_mem hlt)
  have hk := hok _ (rd95_mem hlt)
  have hdb := hd.2 _ (rd95_mem hlt)
  rw [drop_T95 d i hlt, old] at ho
  rw [drop_T95 d i hlt, new] at ha
  rw [drop_T95 d i hlt, units_cons, run_app]
  obtain ⟨s, hsd⟩ : ∃ s, s = rd_T95 d (i : Int) := ⟨_, rfl⟩
  rw [← hsd] at hsm hk ho ha hdb ⊢
  have h3 := old_nn (d := d.drop (i + 1)) (fun x hx => hok x (List.mem_of_mem_drop hx))
  have h4 := new_nn (d := d.drop (i + 1)) (fun x hx => hok x (List.mem_of_mem_drop hx)) (fun x hx => hs.2 x (List.mem_of_mem_drop hx))
  have hfl := hf.1
  have e : ∀ k, delta_Raw.l0 (k + 1) f acc d (d.length : Int) (i : Int) = if s.f0 = 0 then (if 0 ≤ s.f1 then (if s.f1 ≤ (f.length : Int) then ((delta_changed.f k (f.take s.f1.toNat) s.f2).bind fun t => if acc.length + t.length < 3518437208883 then delta_Raw.l0 k (f.drop s.f1.toNat) (acc ++ t) d (d.length : Int) ((i + 1 : Nat) : Int) else none) else none) else none)
    else (if s.f0 = 1 then ((flow_Copy.f k s.f3).bind fun t => if acc.length + t.length < 3518437208883 then delta_Raw.l0 k f (acc ++ t) d (d.length : Int) ((i + 1 : Nat) : Int) else none) else (if 0 ≤ s.f1 then (if s.f1 ≤ (f.length : Int) then delta_Raw.l0 k (f.drop s.f1.toNat) acc d (d.length : Int) ((i + 1 : Nat) : Int) else none) else none)) := fun k => by
   simp only [delta_Raw.l0]
   rw [if_pos (by omega), if_pos (by omega), if_pos (by omega), ← hsd, wrap_up (by omega) (by omega)]
   rfl
  rcases hk with hk | hk | hk
  ·have eo : oldS s = s.f1 := if_neg (by omega)
   have en : newS s = s.f1 := by unfold newS; rw [if_neg (by omega), if_neg (by omega)]
   rw [us_keep hk.1, run_keeps _ _ _ (by omega)]
   have hc := changed_ev s.f2 (f.take s.f1.toNat) (by have := hdb.1; omega) (by rw [List.length_take]; omega) (fun x hx => by have := hf.2 x (List.mem_of_mem_take hx); omega)
   have hl : ((f.take s.f1.toNat).map (app s.f2)).length = s.f1.toNat := by rw [List.length_map, List.length_take]; omega
   have := ih (i + 1) (f.drop s.f1.toNat) (acc ++ (f.take s.f1.toNat).map (app s.f2)) (by omega) ⟨by rw [List.length_drop]; omega, fun x hx => hf.2 x (List.mem_of_mem_drop hx)⟩ (by rw [List.length_drop]; omega) (by rw [List.length_append, hl]; omega)
   rw [List.append_assoc] at this
   exact Ev.step (fun k => by rw [e, if_pos hk.1, if_pos (by omega), if_pos (by omega)]) (Ev.bind hc (Ev.congr (fun k => by rw [if_pos (by rw [hl]; omega)]) this))
  ·have eo : oldS s = 0 := if_pos hk.1
   have en : newS s = (s.f3.length : Int) := by unfold newS; rw [if_neg (by omega), if_pos hk.1]
   rw [us_add hk.1, run_adds]
   have := ih (i + 1) f (acc ++ s.f3) (by omega) hf (by omega) (by rw [List.length_append]; omega)
   rw [List.append_assoc] at this
   exact Ev.step (fun k => by rw [e, if_neg (by omega), if_pos hk.1]) (Ev.bind (copy_ev s.f3 hsm.2) (Ev.congr (fun k => by rw [if_pos (by have := hsm.2.1; omega)]) this))
  ·have eo : oldS s = s.f1 := if_neg (by omega)
   have en : newS s = 0 := if_pos hk.1
   rw [us_cut hk.1, run_cuts _ _ (by omega)]
   have := ih (i + 1) (f.drop s.f1.toNat) acc (by omega) ⟨by rw [List.length_drop]; omega, fun x hx => hf.2 x (List.mem_of_mem_drop hx)⟩ (by rw [List.length_drop]; omega) (by omega)
   exact Ev.step (fun k => by rw [e, if_neg (by omega), if_neg (by omega), if_pos (by omega), if_pos (by omega)]) this
theorem raw_ev (d : List S95) (f : List S26) (hok : ∀ s ∈ d, StepOK s) (hd : DB 1073741824 d) (hf : LB 1073741824 f) (ho : old d ≤ (f.length : Int)) (hn : new d ≤ 1073741824) : Ev (fun k => delta_Raw.f k f d) (run f (units d)).1 := by
 have := raw_l0 d hok hd d.length 0 f [] (by omega) hf (by simpa using ho) (by simpa using hn)
 exact Ev.congr (f := fun k => delta_Raw.l0 k f [] d (d.length : Int) 0) (fun k => rfl) (by simpa using this)
theorem fits_ev (f : List S26) (d : List S95) (hf : POK f) (hl : LB 1073741824 f) (h : DOK d) (hd : DB 1073741824 d) (ho : old d = (f.length : Int)) : Ev (fun k => delta_fits.f k f d) 0 := by
 have hs := dsm h.ok hd (Nat.le_refl _)
 obtain ⟨p, hp, hpi⟩ := part_ev f (fsmall hf hl (Nat.le_refl _))
 obtain rfl := hpi.2 hf
 obtain ⟨c, hc, hci⟩ := check_ev d hs
 obtain rfl := hci.2 h
 refine Ev.congr (fun k => by unfold delta_fits.f; rfl) (Ev.bind hp (Ev.congr (fun k => by rw [if_pos rfl]) (Ev.bind hc (Ev.congr (fun k => by rw [if_pos rfl]) (Ev.bind (lengths_ev d hs h) (Ev.congr (fun k => by rw [if_pos ho]) (Ev.now 0)))))))
theorem apply_ev (f : List S26) (d : List S95) (hf : POK f) (hl : LB 1073741824 f) (h : DOK d) (hd : DB 1073741824 d) (ho : old d = (f.length : Int)) (hn : new d ≤ 1073741824) : Ev (fun k => delta_Apply.f k f d) ((run f (units d)).1, 0) :=
 Ev.congr (fun k => by unfold delta_Apply.f; rfl) (Ev.bind (fits_ev f d hf hl h hd ho) (Ev.congr (fun k => by rw [if_pos rfl]) (Ev.bind (raw_ev d f h.ok hd hl (by omega) hn) (Ev.now _))))
def nold : List Un → Nat
 | [] => 0
 | .add _ :: u => nold u
 | .keep _ :: u => nold u + 1
 | .cut :: u => nold u + 1
def nnew : List Un → Nat
 | [] => 0
 | .cut :: u => nnew u
 | .keep _ :: u => nnew u + 1
 | .add _ :: u => nnew u + 1
theorem nold_app : ∀ a b : List Un, nold (a ++ b) = nold a + nold b
 | [], b => by simp [nold]
 | .add x :: a, b => by simp only [List.cons_append, nold, nold_app a b]
 | .keep t :: a, b => by simp only [List.cons_append, nold, nold_app a b]; omega
 | .cut :: a, b => by simp only [List.cons_append, nold, nold_app a b]; omega
theorem nnew_app : ∀ a b : List Un, nnew (a ++ b) = nnew a + nnew b
 | [], b => by simp [nnew]
 | .add x :: a, b => by simp only [List.cons_append, nnew, nnew_app a b]; omega
 | .keep t :: a, b => by simp only [List.cons_append, nnew, nnew_app a b]; omega
 | .cut :: a, b => by simp only [List.cons_append, nnew, nnew_app a b]
theorem nold_keeps (t : List S91) : ∀ n, nold (List.replicate n (.keep t)) = n
 | 0 => rfl
 | n + 1 => by rw [List.replicate_succ, nold, nold_keeps t n]
theorem nnew_keeps (t : List S91) : ∀ n, nnew (List.replicate n (.keep t)) = n
 | 0 => rfl
 | n + 1 => by rw [List.replicate_succ, nnew, nnew_keeps t n]
theorem nold_cuts : ∀ n, nold (List.replicate n .cut) = n
 | 0 => rfl
 | n + 1 => by rw [List.replicate_succ, nold, nold_cuts n]
theorem nnew_cuts : ∀ n, nnew (List.replicate n .cut) = 0
 | 0 => rfl
 | n + 1 => by rw [List.replicate_succ, nnew, nnew_cuts n]
theorem nold_adds : ∀ l : List S26, nold (l.map .add) = 0
 | [] => rfl
 | x :: l => by rw [List.map_cons, nold, nold_adds l]
theorem nnew_adds : ∀ l : List S26, nnew (l.map .add) = l.length
 | [] => rfl
 | x :: l => by rw [List.map_cons, nnew, nnew_adds l, List.length_cons]
theorem nold_le : ∀ u : List Un, nold u ≤ u.length
 | [] => Nat.le_refl _
 | .add x :: u => by have := nold_le u; simp only [nold, List.length_cons]; omega
 | .keep t :: u => by have := nold_le u; simp only [nold, List.length_cons]; omega
 | .cut :: u => by have := nold_le u; simp only [nold, List.length_cons]; omega
theorem nnew_le : ∀ u : List Un, nnew u ≤ u.length
 | [] => Nat.le_refl _
 | .add x :: u => by have := nnew_le u; simp only [nnew, List.length_cons]; omega
 | .keep t :: u => by have := nnew_le u; simp only [nnew, List.length_cons]; omega
 | .cut :: u => by have := nnew_le u; simp only [nnew, List.length_cons]; omega
theorem run_cuts' : ∀ (n : Nat) (f : List S26), run f (List.replicate n .cut) = ([], f.drop n)
 | 0, f => by simp [run]
 | n + 1, [] => by rw [List.replicate_succ, run, run_cuts' n []]; simp
 | n + 1, x :: f => by rw [List.replicate_succ, run, run_cuts' n f]; simp
def costU : List Un → Nat
 | [] => 0
 | .keep [] :: u => costU u
 | .keep (_ :: _) :: u => costU u + 1
 | .cut :: u => costU u + 1
 | .add _ :: u => costU u + 1
theorem costU_app : ∀ a b : List Un, costU (a ++ b) = costU a + costU b
 | [], b => by simp [costU]
 | .keep [] :: u, b => by rw [List.cons_append, costU, costU, costU_app u b]
 | .keep (_ :: _) :: u, b => by rw [List.cons_append, costU, costU, costU_app u b]; omega
 | .cut :: u, b => by rw [List.cons_append, costU, costU, costU_app u b]; omega
 | .add _ :: u, b => by rw [List.cons_append, costU, costU, costU_app u b]; omega
structure E (a b : List Un) : Prop where
 run : ∀ f, run f a = run f b
 old : nold a = nold b
 new : nnew a = nnew b
 len : a.length = b.length
 cost : costU a = costU b
theorem E.refl (a : List Un) : E a a := ⟨fun _ => rfl, rfl, rfl, rfl, rfl⟩
theorem E.symm {a b : List Un} (h : E a b) : E b a := ⟨fun f => (h.run f).symm, h.old.symm, h.new.symm, h.len.symm, h.cost.symm⟩
theorem E.trans {a b c : List Un} (h : E a b) (k : E b c) : E a c := ⟨fun f => (h.run f).trans (k.run f), h.old.trans k.old, h.new.trans k.new, h.len.trans k.len, h.cost.trans k.cost⟩
theorem E.app {a b c d : List Un} (h : E a b) (k : E c d) : E (a ++ c) (b ++ d) := ⟨fun f => by rw [run_app, run_app, h.run, k.run], by rw [nold_app, nold_app, h.old, k.old], by rw [nnew_app, nnew_app, h.new, k.new], by rw [List.length_append, List.length_append, h.len, k.len], by rw [costU_app, costU_app, h.cost, k.cost]⟩
theorem E.swap (n : Nat) (l : List S26) : E (List.replicate n .cut ++ l.map .add) (l.map .add ++ List.replicate n .cut) :=
 ⟨fun f => by rw [run_app, run_app, run_cuts', run_adds, run_adds, run_cuts']; simp, by rw [nold_app, nold_app]; omega, by rw [nnew_app, nnew_app]; omega, by rw [List.length_append, List.length_append]; omega, by rw [costU_app, costU_app]; omega⟩
theorem us_len {s : S95} (h : StepOK s) : 1 ≤ (us s).length ∧ s.f1.toNat ≤ (us s).length ∧ s.f3.length ≤ (us s).length := by
 rcases h with h | h | h
 ·rw [us_keep h.1, List.length_replicate, h.2.2.2.1]; simp; omega
 ·rw [us_add h.1, List.length_map]
  have := List.length_pos_iff.2 h.2.2.2.1
  omega
 ·rw [us_cut h.1, List.length_replicate, h.2.2.2.1]; simp; omega
theorem oldS_us {s : S95} (h : StepOK s) : oldS s = (nold (us s) : Int) := by
 rcases h with h | h | h
 ·rw [us_keep h.1, nold_keeps]; unfold oldS; rw [if_neg (by omega)]; omega
 ·rw [us_add h.1, nold_adds]; unfold oldS; rw [if_pos h.1]; rfl
 ·rw [us_cut h.1, nold_cuts]; unfold oldS; rw [if_neg (by omega)]; omega
theorem newS_us {s : S95} (h : StepOK s) : newS s = (nnew (us s) : Int) := by
 rcases h with h | h | h
 ·rw [us_keep h.1, nnew_keeps]; unfold newS; rw [if_neg (by omega), if_neg (by omega)]; omega
 ·rw [us_add h.1, nnew_adds]; unfold newS; rw [if_neg (by omega), if_pos h.1]
 ·rw [us_cut h.1, nnew_cuts]; unfold newS; rw [if_pos h.1]; rfl
theorem old_units : ∀ {d : List S95}, (∀ s ∈ d, StepOK s) → old d = (nold (units d) : Int)
 | [], _ => rfl
 | s :: d, h => by
  rw [old, units_cons, nold_app, oldS_us (h s List.mem_cons_self), old_units (fun x hx => h x (List.mem_cons_of_mem _ hx))]
  omega
theorem new_units : ∀ {d : List S95}, (∀ s ∈ d, StepOK s) → new d = (nnew (units d) : Int)
 | [], _ => rfl
 | s :: d, h => by
  rw [new, units_cons, nnew_app, newS_us (h s List.mem_cons_self), new_units (fun x hx => h x (List.mem_cons_of_mem _ hx))]
  omega
theorem units_len : ∀ {d : List S95}, (∀ s ∈ d, StepOK s) → d.length ≤ (units d).length
 | [], _ => Nat.le_refl _
 | s :: d, h => by
  have h1 := us_len (h s List.mem_cons_self)
  have h2 := units_len (d := d) (fun x hx => h x (List.mem_cons_of_mem _ hx))
  rw [units_cons, List.length_append, List.length_cons]
  omega
theorem units_mem : ∀ {d : List S95}, (∀ s ∈ d, StepOK s) → ∀ s ∈ d, (us s).length ≤ (units d).length
 | [], _, s, hs => by cases hs
 | x :: d, h, s, hs => by
  rw [units_cons, List.length_append]
  rcases List.mem_cons.1 hs with rfl | hs
  ·omega
  ·have := units_mem (d := d) (fun x hx => h x (List.mem_cons_of_mem _ hx)) s hs
   omega
theorem ord_snoc (x : S95) : ∀ (l : List S95) (p : Option S95), ordOK p (l ++ [x]) ↔ ordOK p l ∧ ∀ q, (l.getLast?.or p) = some q → Adj q x
 | [], p => by simp [ordOK]
 | [y], p => by simp [ordOK]
 | y :: z :: l, p => by
  have : (z :: l).getLast?.or (some y) = (y :: z :: l).getLast?.or p := by simp [List.getLast?_cons_cons, List.getLast?_cons]
  show ((∀ q, p = some q → Adj q y) ∧ ordOK (some y) ((z :: l) ++ [x])) ↔ ((∀ q, p = some q → Adj q y) ∧ ordOK (some y) (z :: l)) ∧ _
  rw [ord_snoc x (z :: l) (some y), this, and_assoc]
def wu (s : WD) : List Un := units s.out ++ s.add.map .add ++ List.replicate s.cut.toNat .cut
def SAt (A : Nat) (s : S95) : Prop := s.f2.length ≤ A ∧ ∀ y ∈ s.f3, y.f2.length ≤ A
structure WF (A : Nat) (s : WD) : Prop where
 ok : ∀ x ∈ s.out, StepOK x
 ord : ordOK none s.out
 last : ∀ x, s.out.getLast? = some x → x.f0 = 0
 add : POK s.add
 cut : 0 ≤ s.cut
 att : ∀ x ∈ s.out, SAt A x
 atta : ∀ y ∈ s.add, y.f2.length ≤ A
theorem WF.nil (A : Nat) : WF A ⟨[], [], 0⟩ := ⟨(fun x hx => by cases hx), trivial, (fun x hx => by cases hx), (fun j h0 h1 => by simp at h1; omega), Int.le_refl _, (fun x hx => by cases hx), (fun x hx => by cases hx)⟩
structure FO (A : Nat) (o : List S95) : Prop where
 ok : ∀ x ∈ o, StepOK x
 ord : ordOK none o
 att : ∀ x ∈ o, SAt A x
theorem FO.dok {A : Nat} {o : List S95} (h : FO A o) (hl : (units o).length ≤ 2147483647) : DOK o := by
 have h1 := nold_le (units o)
 have h2 := nnew_le (units o)
 exact ⟨h.ok, h.ord, by rw [old_units h.ok]; omega, by rw [new_units h.ok]; omega⟩
theorem FO.db {A n : Nat} {o : List S95} (h : FO A o) (hl : (units o).length ≤ n) (ha : A ≤ n) : DB n o := by
 refine ⟨Nat.le_trans (units_len h.ok) hl, fun s hs => ⟨Nat.le_trans (h.att s hs).1 ha, ?_, fun y hy => Nat.le_trans ((h.att s hs).2 y hy) ha⟩⟩
 have h1 := units_mem h.ok s hs
 have h2 := us_len (h.ok s hs)
 omega
theorem wu_len (s : WD) : (wu s).length = (units s.out).length + s.add.length + s.cut.toNat := by simp [wu]; omega
theorem flush_spec {A : Nat} {s : WD} (h : WF A s) (hl : (wu s).length ≤ 2147483647) : FO A (flushD s.out s.add s.cut) ∧ units (flushD s.out s.add s.cut) = wu s ∧ (s.add = [] → s.cut = 0 → flushD s.out s.add s.cut = s.out) ∧
  (flushD s.out s.add s.cut).length ≤ s.out.length + 2 := by
 rw [wu_len] at hl
 have hcut := h.cut
 have h1 : FO A (addD s.out s.add) ∧ units (addD s.out s.add) = units s.out ++ s.add.map .add ∧ (∀ q, (addD s.out s.add).getLast? = some q → q.f0 ≠ 2) := by
  by_cases ha : 0 < s.add.length
  ·have e : addD s.out s.add = s.out ++ [⟨1, 0, [], s.add⟩] := if_pos ha
   have hne : s.add ≠ [] := fun h => by rw [h] at ha; cases ha
   rw [e]
   refine ⟨⟨fun x hx => ?_, (ord_snoc _ _ _).2 ⟨h.ord, fun q hq => ?_⟩, fun x hx => ?_⟩, ?_, fun q hq => ?_⟩
   ·rcases List.mem_append.1 hx with hx | hx
    ·exact h.ok x hx
    ·rw [List.mem_singleton.1 hx]; exact .inr (.inl ⟨rfl, rfl, rfl, hne, h.add⟩)
   ·rw [Option.or_none] at hq
    have := h.last q hq
    exact ⟨fun h => by have := h.1; simp only at this; omega, fun h => by omega⟩
   ·rcases List.mem_append.1 hx with hx | hx
    ·exact h.att x hx
    ·rw [List.mem_singleton.1 hx]; exact ⟨Nat.zero_le _, h.atta⟩
   ·rw [units_app, units_cons, units_nil, List.append_nil]; rfl
   ·rw [List.getLast?_append] at hq
    simp at hq
    rw [← hq]
    show (1 : Int) ≠ 2
    decide
  ·have e : addD s.out s.add = s.out := if_neg ha
   have hne : s.add = [] := List.eq_nil_of_length_eq_zero (by omega)
   rw [e]
   exact ⟨⟨h.ok, h.ord, h.att⟩, by rw [hne]; simp, fun q hq => by have := h.last q hq; omega⟩
 have hlen1 : (addD s.out s.add).length ≤ s.out.length + 1 := by unfold addD; split <;> simp
 refine ⟨?_, ?_, ?_, ?_⟩
 ·unfold flushD cutD
  split
  ·refine ⟨fun x hx => ?_, (ord_snoc _ _ _).2 ⟨h1.1.ord, fun q hq => ?_⟩, fun x hx => ?_⟩
   ·rcases List.mem_append.1 hx with hx | hx
    ·exact h1.1.ok x hx
    ·rw [List.mem_singleton.1 hx]; exact .inr (.inr ⟨rfl, by show 1 ≤ s.cut; omega, by show s.cut ≤ 2147483647; omega, rfl, rfl⟩)
   ·rw [Option.or_none] at hq
    have := h1.2.2 q hq
    exact ⟨fun h => by have := h.1; simp only at this; omega, fun h => by have := h.2; simp only at this; omega⟩
   ·rcases List.mem_append.1 hx with hx | hx
    ·exact h1.1.att x hx
    ·rw [List.mem_singleton.1 hx]; exact ⟨Nat.zero_le _, fun y hy => by cases hy⟩
  ·exact h1.1
 ·unfold flushD cutD wu
  split
  ·rw [units_app, h1.2.1, units_cons, units_nil, List.append_nil]; rfl
  ·rw [h1.2.1, show s.cut.toNat = 0 by omega]; simp
 ·intro ha hc
  unfold flushD cutD addD
  rw [ha, hc]
  rfl
 ·unfold flushD cutD
  split
  ·rw [List.length_append, List.length_singleton]; omega
  ·omega
theorem keepO_false (o : List S95) (n : Int) (t : List S91) : keepO o n t false = o ++ [⟨0, n, t, []⟩] := rfl
theorem last_split {o : List S95} (h : 0 < o.length) : ∃ o' x, o = o' ++ [x] ∧ rd_T95 o ((o.length : Int) - 1) = x := by
 refine ⟨o.dropLast, o.getLast (fun h' => by rw [h'] at h; cases h), (List.dropLast_concat_getLast _).symm, ?_⟩
 rw [show (o.length : Int) - 1 = ((o.length - 1 : Nat) : Int) by omega]
 simp only [rd_T95, Int.toNat_natCast, List.getD_eq_getElem?_getD, List.getElem?_eq_getElem (show o.length - 1 < o.length by omega), Option.getD_some, List.getLast_eq_getElem]
def Joins (o : List S95) (t : List S91) : Prop := ∃ o' x, o = o' ++ [x] ∧ rd_T95 o ((o.length : Int) - 1) = x ∧ x.f0 = 0 ∧ x.f2 = t
theorem keep_core {A : Nat} {s : WD} (n : Int) (t : List S91) (h : WF A s) (hv : VA true t) (ht : t.length ≤ A) (hA : A ≤ 1073741824) (h0 : 1 ≤ n) (hl : ((wu s).length : Int) + n ≤ 1073741824)
  (b : Bool) (hbi : b = true ↔ Joins (flushD s.out s.add s.cut) t) : WF A ⟨keepO (flushD s.out s.add s.cut) n t b, [], 0⟩ ∧ wu ⟨keepO (flushD s.out s.add s.cut) n t b, [], 0⟩ = wu s ++ List.replicate n.toNat (.keep t) := by
 obtain ⟨f1, f2, f3, f4⟩ := flush_spec h (by omega)
 have hol := units_len h.ok
 have hwl := wu_len s
 obtain ⟨o, ho⟩ : ∃ o, o = flushD s.out s.add s.cut := ⟨_, rfl⟩
 rw [← ho] at f1 f2 f3 f4 hbi ⊢
 have pnil : POK [] := fun j h0 h1 => by simp at h1; omega
 cases b with
 | true =>
  obtain ⟨o', x, e, ex, hk, hx⟩ := hbi.1 rfl
  have hxok := f1.ok x (by rw [e]; simp)
  have hxat := f1.att x (by rw [e]; simp)
  have hx' : 1 ≤ x.f1 ∧ x.f3 = [] := by rcases hxok with h | h | h <;> first | exact ⟨h.2.1, h.2.2.2.1⟩ | omega
  have hxl : x.f1.toNat ≤ (wu s).length := by
   have h1 := units_mem f1.ok x (by rw [e]; simp)
   have h2 := us_len hxok
   rw [f2] at h1
   omega
  have e2 : keepO o n t true = o' ++ [⟨0, x.f1 + n, t, []⟩] := by
   rw [keepO, ex, e, w64 (by omega) (by omega), hk, hx, hx'.2]
   rw [List.length_append, List.length_singleton, show o'.length + 1 - 1 = o'.length by omega, List.set_append_right _ _ (Nat.le_refl _)]
   simp
  have hord := f1.ord
  rw [e, ord_snoc] at hord
  have hst : StepOK ⟨0, x.f1 + n, t, []⟩ := .inl ⟨rfl, by show 1 ≤ x.f1 + n; omega, by show x.f1 + n ≤ 2147483647; omega, rfl, hv⟩
  refine ⟨⟨fun y hy => ?_, ?_, fun y hy => ?_, pnil, Int.le_refl _, fun y hy => ?_, fun y hy => by cases hy⟩, ?_⟩
  ·simp only [e2] at hy
   rcases List.mem_append.1 hy with hy | hy
   ·exact f1.ok y (by rw [e]; exact List.mem_append_left _ hy)
   ·rw [List.mem_singleton.1 hy]; exact hst
  ·simp only [e2]
   refine (ord_snoc _ _ _).2 ⟨hord.1, fun q hq => ?_⟩
   have := hord.2 q hq
   exact ⟨fun h => this.1 ⟨by have := h.1; simp only at this; omega, by rcases h.2 with h | h; exact absurd rfl h; exact .inr (by rw [hx]; exact h)⟩, fun h => by have := h.2; simp only at this; omega⟩
  ·simp only [e2] at hy
   rw [List.getLast?_append] at hy
   simp at hy
   rw [← hy]
  ·simp only [e2] at hy
   rcases List.mem_append.1 hy with hy | hy
   ·exact f1.att y (by rw [e]; exact List.mem_append_left _ hy)
   ·rw [List.mem_singleton.1 hy]; exact ⟨ht, fun z hz => by cases hz⟩
  ·rw [← f2, wu, e2, e, units_app, units_app, units_cons, units_cons, units_nil, us_keep hk, us_keep (s := ⟨0, x.f1 + n, t, []⟩) rfl, hx]
   simp only [List.map_nil, List.append_nil, Int.toNat_zero, List.replicate_zero, List.append_assoc]
   rw [List.replicate_append_replicate, show (x.f1 + n).toNat = x.f1.toNat + n.toNat by omega]
 | false =>
  have hst : StepOK ⟨0, n, t, []⟩ := .inl ⟨rfl, h0, by show n ≤ 2147483647; omega, rfl, hv⟩
  refine ⟨⟨fun y hy => ?_, ?_, fun y hy => ?_, pnil, Int.le_refl _, fun y hy => ?_, fun y hy => by cases hy⟩, ?_⟩
  ·simp only [keepO_false] at hy
   rcases List.mem_append.1 hy with hy | hy
   ·exact f1.ok y hy
   ·rw [List.mem_singleton.1 hy]; exact hst
  ·simp only [keepO_false]
   refine (ord_snoc _ _ _).2 ⟨f1.ord, fun q hq => ?_⟩
   rw [Option.or_none] at hq
   refine ⟨fun h => ?_, fun h => by have := h.2; simp only at this; omega⟩
   have hz : 0 < o.length := by
    cases o with
    | nil => cases hq
    | cons a l => simp
   obtain ⟨o', x, e, ex⟩ := last_split hz
   have : x = q := by rw [e, List.getLast?_append] at hq; simpa using hq
   subst this
   rcases h.2 with h' | h'
   ·exact h' rfl
   ·have := hbi.2 ⟨o', x, e, ex, h.1, h'⟩
    cases this
  ·simp only [keepO_false] at hy
   rw [List.getLast?_append] at hy
   simp at hy
   rw [← hy]
  ·simp only [keepO_false] at hy
   rcases List.mem_append.1 hy with hy | hy
   ·exact f1.att y hy
   ·rw [List.mem_singleton.1 hy]; exact ⟨ht, fun z hz => by cases hz⟩
  ·rw [← f2, wu, keepO_false, units_app, units_cons, units_nil, us_keep (s := ⟨0, n, t, []⟩) rfl]
   simp
theorem dofB_ev {A : Nat} {o : List S95} (t : List S91) (h : FO A o) (hA : A ≤ 1073741824) : ∃ b, Ev (fun k => dofB k o t) b ∧ (b = true ↔ Joins o t) := by
 by_cases hz : 0 < o.length
 ·obtain ⟨o', x, e, ex⟩ := last_split hz
  by_cases hk : x.f0 = 0
  ·obtain ⟨b, hb, hbi⟩ := rsame_ev x.f2 t (by have := (h.att x (by rw [e]; simp)).1; omega)
   refine ⟨b, Ev.congr (fun k => by unfold dofB; rw [if_pos hz, ex, if_pos hk]) hb, hbi.trans ⟨fun h => ⟨o', x, e, ex, hk, h⟩, fun ⟨o2, x2, e2, ex2, _, h⟩ => by rw [← ex, ex2]; exact h⟩⟩
  ·exact ⟨false, Ev.congr (fun k => by unfold dofB; rw [if_pos hz, ex, if_neg hk]) (Ev.now false), ⟨(fun h => by cases h), fun ⟨o2, x2, e2, ex2, h, _⟩ => absurd (by rw [← ex, ex2]; exact h) hk⟩⟩
 ·exact ⟨false, Ev.congr (fun k => by unfold dofB; rw [if_neg hz]) (Ev.now false), ⟨(fun h => by cases h), fun ⟨o2, x2, e2, _⟩ => absurd (by rw [e2]; simp) hz⟩⟩
theorem pok_app {a b : List S26} (ha : POK a) (hb : POK b) : POK (a ++ b) := pok_mem.2 (fun x hx => by rcases List.mem_append.1 hx with hx | hx; exact pok_mem.1 ha x hx; exact pok_mem.1 hb x hx)
theorem cut_spec {A : Nat} {s : WD} (n : Int) (h : WF A s) (h0 : 0 ≤ n) : WF A ⟨s.out, s.add, s.cut + n⟩ ∧ wu ⟨s.out, s.add, s.cut + n⟩ = wu s ++ List.replicate n.toNat .cut := by
 have := h.cut
 refine ⟨⟨h.ok, h.ord, h.last, h.add, by show 0 ≤ s.cut + n; omega, h.att, h.atta⟩, ?_⟩
 simp only [wu, List.append_assoc, List.replicate_append_replicate]
 rw [show (s.cut + n).toNat = s.cut.toNat + n.toNat by omega]
theorem run_len : ∀ (u : List Un) (f : List S26), nold u = f.length → (run f u).1.length = nnew u
 | [], f, h => by simp [run, nnew]
 | .add x :: u, f, h => by simp only [run, nnew, List.length_cons, run_len u f h]
 | .keep t :: u, [], h => by simp [nold] at h
 | .cut :: u, [], h => by simp [nold] at h
 | .keep t :: u, x :: f, h => by
  simp only [nold, List.length_cons, Nat.add_right_cancel_iff] at h
  simp only [run, nnew, List.length_cons, run_len u f h]
 | .cut :: u, x :: f, h => by
  simp only [nold, List.length_cons, Nat.add_right_cancel_iff] at h
  simp only [run, nnew, run_len u f h]
def actU : List (List S26) → List Bool → List (List S91) → List Un
 | a :: As, c :: Cs, t :: Ts => a.map .add ++ (if c = true then [.cut] else [.keep t]) ++ actU As Cs Ts
 | a :: _, [], _ => a.map .add
 | _, _, _ => []
theorem dof_spec {A : Nat} (hA : A ≤ 1073741824) : ∀ (As : List (List S26)) (Cs : List Bool) (Ts : List (List S91)) (s : WD), WF A s → As.length = Cs.length + 1 → Ts.length = Cs.length → (∀ a ∈ As, ∀ x ∈ a, ElemOK x ∧ x.f2.length ≤ A) → (∀ t ∈ Ts, VA true t ∧ t.length ≤ A) →
  (wu s).length + (actU As Cs Ts).length ≤ 1073741823 → ∃ o, Ev (fun k => dofL k As Cs Ts s.out s.add s.cut) o ∧ FO A o ∧ E (units o) (wu s ++ actU As Cs Ts)
 | [], Cs, Ts, s, h, h1, _, _, _, _ => by simp at h1
 | a :: As, [], Ts, s, h, h1, h2, ha, ht, hl => by
  have hol := units_len h.ok
  have hwl := wu_len s
  rw [actU, List.length_map] at hl
  have hsa : WF A ⟨s.out, s.add ++ a, s.cut⟩ := ⟨h.ok, h.ord, h.last, pok_app h.add (pok_mem.2 (fun x hx => (ha a List.mem_cons_self x hx).1)), h.cut, h.att, fun y hy => by rcases List.mem_append.1 hy with hy | hy; exact h.atta y hy; exact (ha a List.mem_cons_self y hy).2⟩
  have hE : E (wu ⟨s.out, s.add ++ a, s.cut⟩) (wu s ++ a.map .add) := by
   have := (E.refl (units s.out ++ s.add.map .add)).app (E.swap s.cut.toNat a).symm
   simpa [wu, List.append_assoc] using this
  obtain ⟨f1, f2, f3, f4⟩ := flush_spec hsa (by rw [hE.len, List.length_append, List.length_map]; omega)
  refine ⟨_, Ev.congr (fun k => by rw [dofL, if_neg (by omega)]) (Ev.now _), f1, ?_⟩
  rw [f2]
  exact hE
 | a :: As, c :: Cs, [], s, h, _, h2, _, _, _ => by simp at h2
 | a :: As, c :: Cs, t :: Ts, s, h, h1, h2, ha, ht, hl => by
  have hol := units_len h.ok
  have hwl := wu_len s
  have hsc := h.cut
  rw [actU, List.length_append, List.length_append, List.length_map] at hl
  have hcl : (if c = true then [Un.cut] else [Un.keep t]).length = 1 := by split <;> rfl
  have hsa : WF A ⟨s.out, s.add ++ a, s.cut⟩ := ⟨h.ok, h.ord, h.last, pok_app h.add (pok_mem.2 (fun x hx => (ha a List.mem_cons_self x hx).1)), h.cut, h.att, fun y hy => by rcases List.mem_append.1 hy with hy | hy; exact h.atta y hy; exact (ha a List.mem_cons_self y hy).2⟩
  have hE : E (wu ⟨s.out, s.add ++ a, s.cut⟩) (wu s ++ a.map .add) := by
   have := (E.refl (units s.out ++ s.add.map .add)).app (E.swap s.cut.toNat a).symm
   simpa [wu, List.append_assoc] using this
  have hEl : (wu ⟨s.out, s.add ++ a, s.cut⟩).length = (wu s).length + a.length := by rw [hE.len, List.length_append, List.length_map]
  have h1' : As.length = Cs.length + 1 := by simpa using h1
  have h2' : Ts.length = Cs.length := by simpa using h2
  have ha' : ∀ b ∈ As, ∀ x ∈ b, ElemOK x ∧ x.f2.length ≤ A := fun b hb => ha b (List.mem_cons_of_mem _ hb)
  have ht' : ∀ u ∈ Ts, VA true u ∧ u.length ≤ A := fun u hu => ht u (List.mem_cons_of_mem _ hu)
  cases c with
  | true =>
   obtain ⟨w1, u1⟩ := cut_spec 1 hsa (by omega)
   obtain ⟨o, e2, fo, eu⟩ := dof_spec hA As Cs Ts ⟨s.out, s.add ++ a, s.cut + 1⟩ w1 h1' h2' ha' ht' (by rw [u1, List.length_append, hEl]; simp only [Int.toNat_one, List.length_replicate]; omega)
   refine ⟨o, Ev.congr (fun k => by rw [dofL, if_neg (by omega), if_pos rfl, w64 (by omega) (by omega)]) e2, fo, eu.trans ?_⟩
   rw [u1, actU, if_pos rfl]
   have := (hE.app (E.refl ([Un.cut] ++ actU As Cs Ts)))
   simpa [List.append_assoc] using this
  | false =>
   have core := keep_core 1 t hsa (ht t List.mem_cons_self).1 (ht t List.mem_cons_self).2 hA (by omega) (by rw [hEl]; omega)
   obtain ⟨f1, f2, f3, f4⟩ := flush_spec hsa (by rw [hEl]; omega)
   obtain ⟨b, hb, hbi⟩ := dofB_ev t f1 hA
   obtain ⟨w1, u1⟩ := core b hbi
   obtain ⟨o, e2, fo, eu⟩ := dof_spec hA As Cs Ts _ w1 h1' h2' ha' ht' (by rw [u1, List.length_append, hEl]; simp only [Int.toNat_one, List.length_replicate]; omega)
   refine ⟨o, Ev.congr (fun k => by rw [dofL, if_neg (by omega), if_neg (by decide)]) (Ev.bind hb e2), fo, eu.trans ?_⟩
   rw [u1, actU, if_neg (by decide)]
   have := (hE.app (E.refl ([Un.keep t] ++ actU As Cs Ts)))
   simpa [List.append_assoc] using this
theorem roll8_ev (raw : List Int) (u : Nat) : ∃ x, rollF raw u 8 = some x ∧ 0 ≤ x ∧ x ≤ 7 := by
 have : ∃ x, rollF raw u 8 = some x := by
  unfold rollF
  split
  ·exact ⟨_, rfl⟩
  ·rw [show wrap64 (8 - 1) = 7 by unfold wrap64; omega]
   obtain ⟨r, hr, _⟩ := within_ev (wrap64 (rd raw ((u % raw.length : Nat) : Int) + (((u + 1) / raw.length : Nat) : Int))) 7 (by omega) (by omega)
   exact ⟨r, hr⟩
 obtain ⟨x, hx⟩ := this
 exact ⟨x, hx, roll8_range hx⟩
structure NmOK (name : ByteArray) : Prop where
 nm : NameOK name
 val : ValOK name
 lt : Op.bytesLess sBold.toList name.toList = true
theorem on_ok : ValOK sOn := by
 refine ⟨by decide, by decide, fun i h0 h1 => ?_⟩
 have : i = 0 ∨ i = 1 := by have : sOn.size = 2 := rfl; omega
 rcases this with rfl | rfl <;> decide
theorem bold_ok : NameOK sBold := by
 refine ⟨by decide, by decide, fun i h0 h1 => ?_⟩
 have : i = 0 ∨ i = 1 ∨ i = 2 ∨ i = 3 := by have : sBold.size = 4 := rfl; omega
 rcases this with rfl | rfl | rfl | rfl <;> exact .inl (by decide)
theorem va_one {ch : Bool} {x : S91} (h : ElOK ch x) : VA ch [x] := ⟨fun y hy => by rw [List.mem_singleton.1 hy]; exact h, List.pairwise_singleton _ _⟩
theorem on_va {ch : Bool} {name : ByteArray} (h : NmOK name) : VA ch (onL name) := va_one ⟨h.nm, .inl on_ok⟩
theorem attrsL_ok (y : Int) {name : ByteArray} (h : NmOK name) : VA true (attrsL y name) ∧ (attrsL y name).length ≤ 2 := by
 unfold attrsL
 split
 ·exact ⟨va_one ⟨bold_ok, .inl on_ok⟩, by simp [onL]⟩
 ·split
  ·exact ⟨va_one ⟨bold_ok, .inr ⟨rfl, rfl⟩⟩, by simp⟩
  ·split
   ·refine ⟨⟨fun x hx => ?_, ?_⟩, by simp⟩
    ·simp only [List.mem_cons, List.not_mem_nil, or_false] at hx
     rcases hx with rfl | rfl
     ·exact ⟨bold_ok, .inl h.val⟩
     ·exact ⟨h.nm, .inl on_ok⟩
    ·refine List.Pairwise.cons (fun y hy => ?_) (List.pairwise_singleton _ _)
     rw [List.mem_singleton.1 hy]
     exact h.lt
   ·exact ⟨va_nil _, by simp⟩
theorem addsL_ok {name : ByteArray} (h : NmOK name) (i : Nat) : ∀ j, ∀ x ∈ addsL i name j, ElemOK x ∧ x.f2.length ≤ 2 ∧ x.f2 = onL name ∧ x.f1 = 0 ∧ 65 ≤ x.f0 ∧ x.f0 ≤ 90
 | 0, x, hx => by cases hx
 | j + 1, x, hx => by
  rw [addsL, List.mem_append] at hx
  rcases hx with hx | hx
  ·exact addsL_ok h i j x hx
  ·rw [List.mem_singleton.1 hx]
   have := q_lt i j
   exact ⟨⟨.inr ⟨rfl, by unfold CharOK; simp only; omega⟩, on_va h⟩, by simp [onL], rfl, rfl, by simp only; omega, by simp only; omega⟩
theorem chL_spec (raw : List Int) {name : ByteArray} (h : NmOK name) : ∀ (m i u : Nat) (As : List (List S26)) (Cs : List Bool) (Ts : List (List S91)), (∀ a ∈ As, a.length ≤ 2 ∧ ∀ x ∈ a, ElemOK x ∧ x.f2.length ≤ 2 ∧ x.f2 = onL name ∧ x.f1 = 0 ∧ 65 ≤ x.f0 ∧ x.f0 ≤ 90) → (∀ t ∈ Ts, VA true t ∧ t.length ≤ 2) →
  ∃ w, chL raw name m i u As Cs Ts = some w ∧ (∀ a ∈ w.1, a.length ≤ 2 ∧ ∀ x ∈ a, ElemOK x ∧ x.f2.length ≤ 2 ∧ x.f2 = onL name ∧ x.f1 = 0 ∧ 65 ≤ x.f0 ∧ x.f0 ≤ 90) ∧ (∀ t ∈ w.2.2, VA true t ∧ t.length ≤ 2)
 | 0, i, u, As, Cs, Ts, ha, ht => by
  obtain ⟨x, hx, h0, h7⟩ := roll8_ev raw u
  refine ⟨_, by rw [chL, hx]; rfl, fun a hm => ?_, ht⟩
  rcases List.mem_append.1 hm with hm | hm
  ·exact ha a hm
  ·rw [List.mem_singleton.1 hm]
   exact ⟨by rw [addsL_len]; omega, addsL_ok h i _⟩
 | m + 1, i, u, As, Cs, Ts, ha, ht => by
  obtain ⟨x, hx, h0, h7⟩ := roll8_ev raw u
  obtain ⟨y, hy, _⟩ := roll8_ev raw (rollU raw u)
  obtain ⟨z, hz, _⟩ := roll8_ev raw (rollU raw (rollU raw u))
  obtain ⟨t, e, h1, h2⟩ := chL_spec raw h m (i + 1) (rollU raw (rollU raw (rollU raw u))) (As ++ [addsL i name (x - 5).toNat]) (Cs ++ [z == 0]) (Ts ++ [attrsL y name])
   (fun a hm => by
    rcases List.mem_append.1 hm with hm | hm
    ·exact ha a hm
    ·rw [List.mem_singleton.1 hm]
     exact ⟨by rw [addsL_len]; omega, addsL_ok h i _⟩)
   (fun t hm => by
    rcases List.mem_append.1 hm with hm | hm
    ·exact ht t hm
    ·rw [List.mem_singleton.1 hm]
     exact attrsL_ok y h)
  exact ⟨t, by rw [chL, hx, Option.bind_some, hy, Option.bind_some, hz, Option.bind_some]; exact e, h1, h2⟩
theorem actU_counts : ∀ (As : List (List S26)) (Cs : List Bool) (Ts : List (List S91)), As.length = Cs.length + 1 → Ts.length = Cs.length → (∀ a ∈ As, a.length ≤ 2) → nold (actU As Cs Ts) = Cs.length ∧ (actU As Cs Ts).length ≤ 3 * Cs.length + 2
 | [], Cs, Ts, h1, _, _ => by simp at h1
 | a :: As, [], Ts, _, _, ha => by have := ha a List.mem_cons_self; rw [actU, nold_adds, List.length_map]; exact ⟨rfl, by simp; omega⟩
 | a :: As, c :: Cs, [], _, h2, _ => by simp at h2
 | a :: As, c :: Cs, t :: Ts, h1, h2, ha => by
  have := ha a List.mem_cons_self
  have ih := actU_counts As Cs Ts (by simpa using h1) (by simpa using h2) (fun b hb => ha b (List.mem_cons_of_mem _ hb))
  rw [actU, nold_app, nold_app, nold_adds, List.length_append, List.length_append, List.length_map, List.length_cons]
  cases c <;> simp [nold] <;> omega
structure ChOK (name : ByteArray) (n : Nat) (o : List S95) : Prop where
 fo : FO 2 o
 ex : ∃ As Cs Ts, E (units o) (actU As Cs Ts) ∧ As.length = Cs.length + 1 ∧ Ts.length = Cs.length ∧ Cs.length = n ∧ (∀ a ∈ As, a.length ≤ 2 ∧ ∀ x ∈ a, ElemOK x ∧ x.f2.length ≤ 2 ∧ x.f2 = onL name ∧ x.f1 = 0 ∧ 65 ≤ x.f0 ∧ x.f0 ≤ 90) ∧ (∀ t ∈ Ts, VA true t ∧ t.length ≤ 2)
theorem change_ev (n : Nat) (raw : List Int) {name : ByteArray} (h : NmOK name) (hn : n ≤ 1048576) : ∃ o, Ev (fun k => changeF k (n : Int) raw name) o ∧ ChOK name n o := by
 obtain ⟨t, e, h1, h2⟩ := chL_spec raw h n 0 0 [] [] [] (fun a ha => by cases ha) (fun a ha => by cases ha)
 have hlen := chL_len _ _ _ _ _ _ _ _ _ e
 simp only [List.length_nil] at hlen
 have hc := actU_counts t.1 t.2.1 t.2.2 (by omega) (by omega) (fun a ha => (h1 a ha).1)
 obtain ⟨o, e2, fo, eu⟩ := dof_spec (A := 2) (by omega) t.1 t.2.1 t.2.2 ⟨[], [], 0⟩ (WF.nil 2) (by omega) (by omega) (fun a ha x hx => ⟨((h1 a ha).2 x hx).1, ((h1 a ha).2 x hx).2.1⟩) h2 (by show 0 + _ ≤ _; omega)
 exact ⟨o, Ev.congr (fun k => by rw [changeF, if_pos (by omega), Int.toNat_natCast, e, Option.bind_some]) e2, fo, t.1, t.2.1, t.2.2, eu, by omega, by omega, by omega, h1, h2⟩
theorem ChOK.counts {name : ByteArray} {n : Nat} {o : List S95} (h : ChOK name n o) : nold (units o) = n ∧ (units o).length ≤ 3 * n + 2 := by
 obtain ⟨As, Cs, Ts, eu, h1, h2, h3, h4, h5⟩ := h.ex
 have := actU_counts As Cs Ts h1 h2 (fun a ha => (h4 a ha).1)
 rw [eu.old, eu.len]
 omega
end Go.Proofs.Ytlcodfjlbhjkbaa.PDelta
end
section
namespace Go.Proofs.Ytlcodfjlbhjkbaa.PDelta
open Go.RowKit Go.Proofs.YtlcodfjlbhjkbaaW.PrintWords Go.Proofs.YtlcodfjlbhjkbaaW.PrintLast Go.Proofs.YtlcodfjlbhjkbaaW.PrintMore
attribute [local go_sem] max2_int min2_int max_two min_two max_three min_three max_four min_four
attribute [local go_sem high] Go.Proofs.Ytlcodfjlbhjkbaa.Ord.leq_str Go.Proofs.Ytlcodfjlbhjkbaa.Ord.gtr_str Go.Proofs.Ytlcodfjlbhjkbaa.Ord.geq_str
end Go.Proofs.Ytlcodfjlbhjkbaa.PDelta
end
section
namespace Go.Proofs.Ytlcodfjlbhjkbaa.PDelta.Ax
inductive Un where
 | k : Un
 | a : Un
 | c : Un
def Un.isB : Un → Bool
 | .a => false
 | _ => true
def Un.isA : Un → Bool
 | .c => false
 | _ => true
def bef (u : List Un) : Nat := u.countP Un.isB
def aft (u : List Un) : Nat := u.countP Un.isA
theorem bef_k (u : List Un) : bef (.k :: u) = bef u + 1 := List.countP_cons_of_pos rfl
theorem bef_a (u : List Un) : bef (.a :: u) = bef u := List.countP_cons_of_neg (by decide)
theorem bef_c (u : List Un) : bef (.c :: u) = bef u + 1 := List.countP_cons_of_pos rfl
theorem bef_app (u v : List Un) : bef (u ++ v) = bef u + bef v := by simp [bef]
theorem aft_app (u v : List Un) : aft (u ++ v) = aft u + aft v := by simp [aft]
theorem bef_len (u : List Un) : bef u ≤ u.length := List.countP_le_length
theorem aft_len (u : List Un) : aft u ≤ u.length := List.countP_le_length
section
variable {u v r : List Un}
end
section
variable {u v x y : List Un}
end
end Go.Proofs.Ytlcodfjlbhjkbaa.PDelta.Ax
end
section
namespace Go.Proofs.Ytlcodfjlbhjkbaa.PDelta.Ax
open Go.RowKit Go.Proofs.YtlcodfjlbhjkbaaW.PrintWords Go.Proofs.YtlcodfjlbhjkbaaW.PrintLast Go.Proofs.YtlcodfjlbhjkbaaW.PrintMore
def un (k : Int) : Un := if k = 0 then .k else if k = 1 then .a else .c
def K3 (k : Int) : Prop := k = 0 ∨ k = 1 ∨ k = 2
def ex (l : List S121) : List Un := l.flatMap fun s => List.replicate s.f1.toNat (un s.f0)
theorem ex_nil : ex [] = [] := rfl
theorem ex_cons (s : S121) (l : List S121) : ex (s :: l) = List.replicate s.f1.toNat (un s.f0) ++ ex l := by simp [ex]
theorem ex_app (l m : List S121) : ex (l ++ m) = ex l ++ ex m := by simp [ex]
theorem ex_one (s : S121) : ex [s] = List.replicate s.f1.toNat (un s.f0) := by simp [ex]
def Fn : Int → List S121 → Prop
 | _, [] => True
 | p, s :: l => K3 s.f0 ∧ 1 ≤ s.f1 ∧ s.f0 ≠ p ∧ ¬ (p = 2 ∧ s.f0 = 1) ∧ Fn s.f0 l
def lk : Int → List S121 → Int
 | p, [] => p
 | _, s :: l => lk s.f0 l
theorem lk_app : ∀ (p : Int) (l m : List S121), lk p (l ++ m) = lk (lk p l) m
 | p, [], m => rfl
 | p, s :: l, m => lk_app s.f0 l m
theorem Fn.app : ∀ (p : Int) (l m : List S121), Fn p (l ++ m) ↔ Fn p l ∧ Fn (lk p l) m
 | p, [], m => by simp [Fn, lk]
 | p, s :: l, m => by
  rw [List.cons_append, Fn, Fn, Fn.app s.f0 l m, lk]
  constructor
  ·rintro ⟨h1, h2, h3, h4, h5, h6⟩
   exact ⟨⟨h1, h2, h3, h4, h5⟩, h6⟩
  ·rintro ⟨⟨h1, h2, h3, h4, h5⟩, h6⟩
   exact ⟨h1, h2, h3, h4, h5, h6⟩
theorem Fn.len : ∀ (p : Int) (l : List S121), Fn p l → l.length ≤ (ex l).length
 | p, [], _ => Nat.le_refl _
 | p, s :: l, h => by
  have := Fn.len s.f0 l h.2.2.2.2
  have h2 := h.2.1
  rw [ex_cons]
  simp only [List.length_append, List.length_replicate, List.length_cons]
  omega
theorem wrap_small {i : Int} (h0 : -1099511627776 ≤ i) (h : i ≤ 1099511627776) : wrap64 i = i := by unfold wrap64; omega
theorem ex_mem_le {l : List S121} {s : S121} (h : s ∈ l) : s.f1.toNat ≤ (ex l).length := by
 obtain ⟨a, b, rfl⟩ := List.append_of_mem h
 rw [ex_app, ex_cons]
 simp only [List.length_append, List.length_replicate]
 omega
section
variable {s : S121} {l : List S121} {u : Int}
end
theorem un0 {k : Int} (h : k = 0) : un k = .k := by rw [h]; rfl
theorem un1 {k : Int} (h : k = 1) : un k = .a := by rw [h]; rfl
theorem un2 {k : Int} (h : k = 2) : un k = .c := by rw [h]; rfl
theorem bef_rep (n : Nat) (x : Un) : bef (List.replicate n x) = if x.isB then n else 0 := by simp [bef, List.countP_replicate]
theorem aft_rep (n : Nat) (x : Un) : aft (List.replicate n x) = if x.isA then n else 0 := by simp [aft, List.countP_replicate]
theorem rd_mid (P R : List S121) (s : S121) : rd_T121 (P ++ s :: R) (P.length : Int) = s := by
 simp [rd_T121, List.getD_eq_getElem?_getD]
theorem rd_before (Q R : List S121) (t : S121) : rd_T121 (Q ++ [t] ++ R) ((Q.length : Int)) = t := by
 rw [List.append_assoc]
 exact rd_mid Q R t
theorem ex_len_app (P R : List S121) : (ex (P ++ R)).length = (ex P).length + (ex R).length := by rw [ex_app, List.length_append]
theorem ex_len_cons (s : S121) (R : List S121) : (ex (s :: R)).length = s.f1.toNat + (ex R).length := by rw [ex_cons, List.length_append, List.length_replicate]
theorem bef_snoc (P : List S121) (s : S121) : bef (ex (P ++ [s])) = bef (ex P) + if (un s.f0).isB then s.f1.toNat else 0 := by rw [ex_app, ex_one, bef_app, bef_rep]
theorem aft_snoc (P : List S121) (s : S121) : aft (ex (P ++ [s])) = aft (ex P) + if (un s.f0).isA then s.f1.toNat else 0 := by rw [ex_app, ex_one, aft_app, aft_rep]
theorem wmid {i : Int} (h0 : 0 ≤ i) (h : i ≤ 4611686018427387904) : wrap64 i = i := by unfold wrap64; omega
theorem mn_left {x : Int} (h : x ≤ 2147483647) : Go.Proofs.YtlcodfjlbhjkbaaW.PrintWords.mn x 2147483648 = x := by
 unfold Go.Proofs.YtlcodfjlbhjkbaaW.PrintWords.mn
 rw [if_neg (by omega)]
theorem check_l0 : ∀ (R P : List S121) (k : Nat), Fn (-1) (P ++ R) → (ex (P ++ R)).length ≤ 2147483647 → 4 * R.length < k →
  axis_Check.l0 k (P ++ R) (bef (ex P) : Nat) (aft (ex P) : Nat) (P ++ R) ((P ++ R).length : Int) (P.length : Int) = some 0
 | [], P, k, hf, hs, hk => by
  obtain ⟨m, rfl⟩ : ∃ m, k = m + 1 := ⟨k - 1, by omega⟩
  have h1 := bef_len (ex P)
  have h2 := aft_len (ex P)
  rw [List.append_nil] at hs ⊢
  rw [axis_Check.l0, if_neg (by omega), if_neg (by omega), if_neg (by omega)]
 | s :: R, P, k, hf, hs, hk => by
  obtain ⟨m, rfl⟩ : ∃ m, k = m + 4 := ⟨k - 4, by simp only [List.length_cons] at hk; omega⟩
  have hf2 := hf
  rw [Fn.app] at hf2
  obtain ⟨_, hk3, h1, hne, h21, hR⟩ := hf2
  have hl := Fn.len _ _ hf
  have e : P ++ s :: R = (P ++ [s]) ++ R := by simp
  have hb := bef_len (ex (P ++ [s]))
  have ha := aft_len (ex (P ++ [s]))
  have hx : (ex (P ++ [s])).length ≤ (ex (P ++ s :: R)).length := by have := ex_len_app (P ++ [s]) R; rw [← e] at this; omega
  have ih := check_l0 R (P ++ [s]) m (by rw [← e]; exact hf) (by rw [← e]; exact hs) (by simp only [List.length_cons] at hk; omega)
  rw [← e] at ih
  have hn : (((P ++ [s]).length : Nat) : Int) = (P.length : Int) + 1 := by simp
  rw [hn] at ih
  have hmx := ex_mem_le (l := P ++ s :: R) (s := s) (by simp)
  have hJ3 : axis_Check.j3 (m + 1) (P ++ s :: R) (bef (ex P) : Nat) (aft (ex P) : Nat) (P ++ s :: R) ((P ++ s :: R).length : Int) (P.length : Int) s.f0 s.f1 = some 0 := by
   rw [bef_snoc] at hb ih
   rw [aft_snoc] at ha ih
   have hw1 : wrap64 ((P.length : Int) + 1) = (P.length : Int) + 1 := wmid (by omega) (by simp only [List.length_append, List.length_cons] at hl; omega)
   rw [axis_Check.j3, hw1]
   have hb0 := bef_len (ex P)
   have ha0 := aft_len (ex P)
   have h3 : (ex P).length + s.f1.toNat ≤ 2147483647 := by rw [ex_len_app, ex_len_cons] at hs; omega
   have e1 : wrap64 (((bef (ex P) : Nat) : Int) + s.f1) = ((bef (ex P) : Nat) : Int) + s.f1 := wmid (by omega) (by omega)
   have e2 : wrap64 (((aft (ex P) : Nat) : Int) + s.f1) = ((aft (ex P) : Nat) : Int) + s.f1 := wmid (by omega) (by omega)
   rw [e1, e2, mn_left (by omega), mn_left (by omega)]
   have e3 : ((bef (ex P) : Nat) : Int) + s.f1 = ((bef (ex P) + s.f1.toNat : Nat) : Int) := by omega
   have e4 : ((aft (ex P) : Nat) : Int) + s.f1 = ((aft (ex P) + s.f1.toNat : Nat) : Int) := by omega
   rw [e3, e4]
   rcases hk3 with e | e | e
   ·rw [un0 e] at ih
    simp only [Un.isA, Un.isB, ↓reduceIte] at ih
    rw [if_neg (by omega), if_neg (by omega)]
    exact ih
   ·rw [un1 e] at ih
    simp only [Un.isA, Un.isB, ↓reduceIte, Bool.false_eq_true, Nat.add_zero] at ih
    rw [if_pos e, if_neg (by omega)]
    exact ih
   ·rw [un2 e] at ih
    simp only [Un.isA, Un.isB, ↓reduceIte, Bool.false_eq_true, Nat.add_zero] at ih
    rw [if_neg (by omega), if_pos e]
    exact ih
  have hlt : (P.length : Int) < ((P ++ s :: R).length : Int) := by simp; omega
  rw [axis_Check.l0, if_pos hlt, if_pos (by omega), if_pos hlt, rd_mid]
  rw [if_neg (by rcases hk3 with e | e | e <;> omega)]
  rw [axis_Check.j1, if_neg (by rw [decide_eq_true_iff]; rcases hk3 with e | e | e <;> omega), if_neg (by omega)]
  rw [axis_Check.j2, if_neg (by rw [decide_eq_true_iff]; omega)]
  by_cases hp : (P.length : Int) > 0
  ·rcases List.eq_nil_or_concat P with rfl | ⟨Q, t, rfl⟩
   ·simp at hp
   ·rw [List.concat_eq_append] at *
    have hq : ((Q ++ [t]).length : Int) - 1 = (Q.length : Int) := by simp
    have hw2 : wrap64 (((Q ++ [t]).length : Int) - 1) = (Q.length : Int) := by rw [hq]; exact wmid (by omega) (by simp only [List.length_append, List.length_cons] at hl; omega)
    rw [if_pos hp, hw2, if_pos (by omega), if_pos (by simp only [List.length_append, List.length_cons, List.length_nil]; omega), rd_before Q (s :: R) t]
    rw [lk_app] at hne h21
    have hne' : s.f0 ≠ t.f0 := hne
    have h21' : ¬ (t.f0 = 2 ∧ s.f0 = 1) := h21
    rw [if_neg (by omega)]
    split
    ·rw [if_neg (by omega)]
     exact hJ3
    ·exact hJ3
  ·rw [if_neg hp]
   exact hJ3
theorem check_ok {l : List S121} {k : Nat} (hf : Fn (-1) l) (hs : (ex l).length ≤ 2147483647) (hk : 4 * (ex l).length < k) : axis_Check.f k l = some 0 :=
 check_l0 l [] k hf hs (by have := Fn.len _ _ hf; omega)
theorem lengths_l0 : ∀ (R P : List S121) (k : Nat), Fn (-1) (P ++ R) → (ex (P ++ R)).length ≤ 2147483647 → R.length < k →
  axis_lengths.l0 k (bef (ex P) : Nat) (aft (ex P) : Nat) (P ++ R) ((P ++ R).length : Int) (P.length : Int) = some (((bef (ex (P ++ R)) : Nat) : Int), ((aft (ex (P ++ R)) : Nat) : Int))
 | [], P, k, hf, hs, hk => by
  obtain ⟨m, rfl⟩ : ∃ m, k = m + 1 := ⟨k - 1, by omega⟩
  rw [List.append_nil]
  rw [axis_lengths.l0, if_neg (by omega)]
 | s :: R, P, k, hf, hs, hk => by
  obtain ⟨m, rfl⟩ : ∃ m, k = m + 1 := ⟨k - 1, by omega⟩
  have hf2 := hf
  rw [Fn.app] at hf2
  obtain ⟨_, hk3, h1, hne, h21, hR⟩ := hf2
  have hl := Fn.len _ _ hf
  have e : P ++ s :: R = (P ++ [s]) ++ R := by simp
  have ih := lengths_l0 R (P ++ [s]) m (by rw [← e]; exact hf) (by rw [← e]; exact hs) (by simp only [List.length_cons] at hk; omega)
  rw [← e] at ih
  have hn : (((P ++ [s]).length : Nat) : Int) = (P.length : Int) + 1 := by simp
  rw [hn, bef_snoc, aft_snoc] at ih
  have hw1 : wrap64 ((P.length : Int) + 1) = (P.length : Int) + 1 := wmid (by omega) (by simp only [List.length_append, List.length_cons] at hl; omega)
  have hb0 := bef_len (ex P)
  have ha0 := aft_len (ex P)
  have h3 : (ex P).length + s.f1.toNat ≤ 2147483647 := by rw [ex_len_app, ex_len_cons] at hs; omega
  have e1 : wrap64 (((bef (ex P) : Nat) : Int) + s.f1) = ((bef (ex P) + s.f1.toNat : Nat) : Int) := by rw [wmid (by omega) (by omega)]; omega
  have e2 : wrap64 (((aft (ex P) : Nat) : Int) + s.f1) = ((aft (ex P) + s.f1.toNat : Nat) : Int) := by rw [wmid (by omega) (by omega)]; omega
  have hlt : (P.length : Int) < ((P ++ s :: R).length : Int) := by simp; omega
  rw [axis_lengths.l0, if_pos hlt, if_pos (by omega), if_pos hlt, rd_mid, hw1, e1, e2]
  rcases hk3 with e | e | e
  ·rw [un0 e] at ih
   simp only [Un.isA, Un.isB, ↓reduceIte] at ih
   rw [if_neg (by omega), if_neg (by omega)]
   exact ih
  ·rw [un1 e] at ih
   simp only [Un.isA, Un.isB, ↓reduceIte, Bool.false_eq_true, Nat.add_zero] at ih
   rw [if_pos e, if_neg (by omega)]
   exact ih
  ·rw [un2 e] at ih
   simp only [Un.isA, Un.isB, ↓reduceIte, Bool.false_eq_true, Nat.add_zero] at ih
   rw [if_neg (by omega), if_pos e]
   exact ih
theorem lengths_ok {l : List S121} {k : Nat} (hf : Fn (-1) l) (hs : (ex l).length ≤ 2147483647) (hk : (ex l).length < k) : axis_lengths.f k l = some (((bef (ex l) : Nat) : Int), ((aft (ex l) : Nat) : Int)) :=
 lengths_l0 l [] k hf hs (by have := Fn.len _ _ hf; omega)
theorem within_ok (v lo hi : Int) (h0 : 0 ≤ lo) (h1 : lo ≤ hi) (h2 : hi ≤ 1000) : ∃ r, chanceryref1_Within.f v lo hi = some r ∧ lo ≤ r ∧ r ≤ hi := by
 unfold chanceryref1_Within.f
 rw [show wrap64 (hi - lo) = hi - lo from wmid (by omega) (by omega), show wrap64 (hi - lo + 1) = hi - lo + 1 from wmid (by omega) (by omega), if_neg (by omega)]
 obtain ⟨n, hn⟩ : ∃ n, n = hi - lo + 1 := ⟨_, rfl⟩
 rw [← hn]
 refine ⟨_, rfl, ?_⟩
 have h3 : -n < Int.tmod v n ∧ Int.tmod v n < n := ⟨Int.lt_tmod_of_pos v (by omega), Int.tmod_lt_of_pos v (by omega)⟩
 have h4 : wrap64 (Int.tmod v n + n) = Int.tmod v n + n := wmid (by omega) (by omega)
 rw [h4]
 have h5 : 0 ≤ Int.tmod (Int.tmod v n + n) n := Int.tmod_nonneg _ (by omega)
 have h6 : Int.tmod (Int.tmod v n + n) n < n := Int.tmod_lt_of_pos _ (by omega)
 rw [wmid (by omega) (by omega)]
 omega
def placeS : List S121 → Int → Int → Int → Int
 | [], _, _, _ => -1
 | s :: l, f, t, p => if s.f0 = 1 then placeS l f (t + s.f1) p else if s.f0 = 0 then (if p < f + s.f1 then t + p - f else placeS l (f + s.f1) (t + s.f1) p) else if p < f + s.f1 then -1 else placeS l (f + s.f1) t p
def Pos (l : List S121) : Prop := ∀ s, s ∈ l → K3 s.f0 ∧ 1 ≤ s.f1
theorem Fn.pos : ∀ {p : Int} {l : List S121}, Fn p l → Pos l
 | p, [], _, s, h => by cases h
 | p, x :: l, h, s, hs => by
  rcases List.mem_cons.1 hs with rfl | hs
  ·exact ⟨h.1, h.2.1⟩
  ·exact (Fn.pos h.2.2.2.2) s hs
theorem Pos.head {s : S121} {l : List S121} (h : Pos (s :: l)) : K3 s.f0 ∧ 1 ≤ s.f1 := h s (List.mem_cons_self ..)
theorem Pos.tail {s : S121} {l : List S121} (h : Pos (s :: l)) : Pos l := fun x hx => h x (List.mem_cons_of_mem _ hx)
structure At (P R : List S121) (s : S121) : Prop where
 k3 : K3 s.f0
 pos : 1 ≤ s.f1
 lt : (P.length : Int) < ((P ++ s :: R).length : Int)
 next : wrap64 ((P.length : Int) + 1) = (((P ++ [s]).length : Nat) : Int)
 app : P ++ s :: R = (P ++ [s]) ++ R
 sum : (ex P).length + s.f1.toNat ≤ 1000000
 b0 : bef (ex P) ≤ (ex P).length
 a0 : aft (ex P) ≤ (ex P).length
theorem At.of {P R : List S121} {s : S121} (hf : Fn (-1) (P ++ s :: R)) (hs : (ex (P ++ s :: R)).length ≤ 1000000) : At P R s := by
 have hf2 := hf
 rw [Fn.app] at hf2
 obtain ⟨_, hk3, h1, hne, h21, hR⟩ := hf2
 have hl := Fn.len _ _ hf
 refine ⟨hk3, h1, by simp; omega, ?_, by simp, by rw [ex_len_app, ex_len_cons] at hs; omega, bef_len _, aft_len _⟩
 rw [wmid (by omega) (by simp only [List.length_append, List.length_cons] at hl; omega)]
 simp
theorem bef_i (P : List S121) (s : S121) (h : 1 ≤ s.f1) : ((bef (ex (P ++ [s])) : Nat) : Int) = (bef (ex P) : Int) + if (un s.f0).isB then s.f1 else 0 := by
 rw [bef_snoc]
 split <;> omega
theorem aft_i (P : List S121) (s : S121) (h : 1 ≤ s.f1) : ((aft (ex (P ++ [s])) : Nat) : Int) = (aft (ex P) : Int) + if (un s.f0).isA then s.f1 else 0 := by
 rw [aft_snoc]
 split <;> omega
theorem place_l0 : ∀ (R P : List S121) (k : Nat) (p : Int), Fn (-1) (P ++ R) → (ex (P ++ R)).length ≤ 1000000 → 0 ≤ p → p ≤ 1000000 → R.length < k →
  axis_place.l0 k p (bef (ex P) : Nat) (aft (ex P) : Nat) (P ++ R) ((P ++ R).length : Int) (P.length : Int) = some (placeS R (bef (ex P) : Nat) (aft (ex P) : Nat) p)
 | [], P, k, p, hf, hs, hp, hp', hk => by
  obtain ⟨m, rfl⟩ : ∃ m, k = m + 1 := ⟨k - 1, by omega⟩
  rw [List.append_nil, axis_place.l0, if_neg (Int.lt_irrefl _)]
  rfl
 | s :: R, P, k, p, hf, hs, hp, hp', hk => by
  obtain ⟨m, rfl⟩ : ∃ m, k = m + 1 := ⟨k - 1, by omega⟩
  have A := At.of hf hs
  have ih := place_l0 R (P ++ [s]) m p (by rw [← A.app]; exact hf) (by rw [← A.app]; exact hs) hp hp' (by simp only [List.length_cons] at hk; omega)
  rw [← A.app, bef_i P s A.pos, aft_i P s A.pos] at ih
  have h1 := A.pos
  have h2 := A.sum
  have h3 := A.b0
  have h4 := A.a0
  rw [axis_place.l0, if_pos A.lt, if_pos (Int.natCast_nonneg _), if_pos A.lt, rd_mid, A.next]
  obtain ⟨f, hf'⟩ : ∃ f : Int, f = (bef (ex P) : Nat) := ⟨_, rfl⟩
  obtain ⟨t, ht'⟩ : ∃ f : Int, f = (aft (ex P) : Nat) := ⟨_, rfl⟩
  rw [← hf', ← ht'] at ih ⊢
  have e1 : wrap64 (f + s.f1) = f + s.f1 := wmid (by omega) (by omega)
  have e2 : wrap64 (t + s.f1) = t + s.f1 := wmid (by omega) (by omega)
  have e3 : wrap64 (t + p) = t + p := wmid (by omega) (by omega)
  have e4 : wrap64 (t + p - f) = t + p - f := wrap_small (by omega) (by omega)
  rw [e1, e2, e3, e4]
  rcases A.k3 with e | e | e
  ·have hS : placeS (s :: R) f t p = if p < f + s.f1 then t + p - f else placeS R (f + s.f1) (t + s.f1) p := by rw [placeS, if_neg (by omega), if_pos e]
   rw [un0 e] at ih
   simp only [Un.isA, Un.isB, ↓reduceIte] at ih
   rw [hS, if_neg (show ¬ s.f0 = 1 by omega), if_pos e, ih]
   split <;> rfl
  ·have hS : placeS (s :: R) f t p = placeS R f (t + s.f1) p := by rw [placeS, if_pos e]
   rw [un1 e] at ih
   simp only [Un.isA, Un.isB, ↓reduceIte, Bool.false_eq_true, Int.add_zero] at ih
   rw [hS, if_pos e, ih]
  ·have hS : placeS (s :: R) f t p = if p < f + s.f1 then -1 else placeS R (f + s.f1) t p := by rw [placeS, if_neg (by omega), if_neg (by omega)]
   rw [un2 e] at ih
   simp only [Un.isA, Un.isB, ↓reduceIte, Bool.false_eq_true, Int.add_zero] at ih
   rw [hS, if_neg (show ¬ s.f0 = 1 by omega), if_neg (show ¬ s.f0 = 0 by omega), ih]
   split <;> rfl
theorem place_ok {l : List S121} {k : Nat} {p : Int} (hf : Fn (-1) l) (hs : (ex l).length ≤ 1000000) (h0 : 0 ≤ p) (h1 : p ≤ 1000000) (hk : (ex l).length < k) : axis_place.f k l p = some (placeS l 0 0 p) :=
 place_l0 l [] k p hf hs h0 h1 (by have := Fn.len _ _ hf; omega)
end Go.Proofs.Ytlcodfjlbhjkbaa.PDelta.Ax
end

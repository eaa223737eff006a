/- Parts of the proof of Thru: nothing is claimed here by itself. -/
import Derived.Test.YtlcodfjlbhjkbaaKThru3
import Derived.StillTailTactics
set_option linter.unusedVariables false
set_option linter.unusedSimpArgs false
section
namespace Go.Proofs.Ytlcodfjlbhjkbaa.PDelta
open Go.RowKit Go.Proofs.YtlcodfjlbhjkbaaW.PrintWords Go.Proofs.YtlcodfjlbhjkbaaW.PrintLast Go.Proofs.YtlcodfjlbhjkbaaW.PrintMore
theorem Ev.one {α : Type} {g : Nat → Option α} {r q : α} (h : Ev g r) (k : Ev g q) : r = q := by
 obtain ⟨K, hK⟩ := h
 obtain ⟨L, hL⟩ := k
 exact Option.some.inj ((hK (K + L) (by omega)).symm.trans (hL (K + L) (by omega)))
open Classical in
noncomputable def ever {α : Type} (g : Nat → Option α) : Option α := if h : ∃ r, Ev g r then some h.choose else none
theorem ever_of {α : Type} {g : Nat → Option α} {r : α} (h : Ev g r) : ever g = some r := by
 have hx : ∃ r, Ev g r := ⟨r, h⟩
 rw [ever, dif_pos hx]
 exact congrArg some (Ev.one hx.choose_spec h)
theorem ever_ev {α : Type} {g : Nat → Option α} {r : α} (h : ever g = some r) : Ev g r := by
 unfold ever at h
 split at h
 ·rename_i hx
  obtain rfl := Option.some.inj h
  exact hx.choose_spec
 ·cases h
noncomputable def chancerykeep1_change.f (n : Int) (raw : List Int) (name : ByteArray) : Option (List S95) := ever (fun k => changeF k n raw name)
theorem chancerykeep1_change.calls (n : Int) (A0 : Option Addr) (c0 : Nat) (raw : List Int) (name : ByteArray) (r : List S95) (w : World) (hr0 : Kd.C (Kd.int .i64) w A0 raw.length raw) (hc0 : raw.length ≤ c0) (h : chancerykeep1_change.f n raw name = some r) :
  Calls Try.prog 21 #[.int .i64 n, .slice A0 raw.length c0, .string name] w fun e w' => ∃ v0_ : Value, e = .returned v0_ ∧ Kd.N k95 95 w' w.heap.size (fun _ => True) v0_ r ∧ Below w.heap.size w w' := by
 obtain ⟨k, hk⟩ := (ever_ev h).rounds
 exact change_calls k n A0 c0 raw name r w hr0 hc0 hk
def chancerykeep1_deltas.f : Option Bool := some true
theorem chancerykeep1_deltas.calls (r : Bool) (w : World) (h : chancerykeep1_deltas.f = some r) :
  Calls Try.prog 13 #[] w fun e w' => e = .returned (.bool r) ∧ Below w.heap.size w w' := by
 obtain rfl := Option.some.inj h
 exact deltas_calls w
end Go.Proofs.Ytlcodfjlbhjkbaa.PDelta
end
section
namespace Go.Proofs.Ytlcodfjlbhjkbaa.PDelta
open Go.RowKit Go.Proofs.YtlcodfjlbhjkbaaW.PrintWords Go.Proofs.YtlcodfjlbhjkbaaW.PrintLast Go.Proofs.YtlcodfjlbhjkbaaW.PrintMore
attribute [local go_sem] max2_int min2_int max_two min_two max_three min_three max_four min_four
attribute [local go_sem high] Go.Proofs.Ytlcodfjlbhjkbaa.Ord.leq_str Go.Proofs.Ytlcodfjlbhjkbaa.Ord.gtr_str Go.Proofs.Ytlcodfjlbhjkbaa.Ord.geq_str
theorem eqA44 (d : Nat) (w : World) (x0 y0 : Int) (x1 y1 : Int) :
  (Op.equalIn (d + 2) 44 (.agg #[.int .i64 x0, .int .i64 x1]) (.agg #[.int .i64 y0, .int .i64 y1])).run Try.prog w = .ok (x0 == y0 && (x1 == y1)) w := by
 refine eqA_of Try.underlying44 (by kernel_rfl) ?_
 refine eqf_cons (by rfl) (by go_simp; rfl) (by go_simp; rfl) (by go_simp) ?_
 exact eqf_last (by rfl) (by go_simp; rfl) (by go_simp; rfl) (by go_simp)
theorem eqA121 (d : Nat) (w : World) (x0 y0 : Int) (x1 y1 : Int) :
  (Op.equalIn (d + 2) 121 (.agg #[.int .i64 x0, .int .i64 x1]) (.agg #[.int .i64 y0, .int .i64 y1])).run Try.prog w = .ok (x0 == y0 && (x1 == y1)) w := by
 refine eqA_of Try.underlying121 (by kernel_rfl) ?_
 refine eqf_cons (by rfl) (by go_simp; rfl) (by go_simp; rfl) (by go_simp) ?_
 exact eqf_last (by rfl) (by go_simp; rfl) (by go_simp; rfl) (by go_simp)
mutual
def span_Check.l0 : Nat → List (S44) → List (S44) → Int → Int → Option (Int)
 | 0, _, _, _, _ => none
 | k + 1, x0, x5, x6, x7 => if x7 < x6 then (if 0 ≤ x7 then (if x7 < (x5.length : Int) then (if ((rd_T44 x5 x7).f0) < 0 then (span_Check.j1 k x0 x7 x5 x6 x7 true ((rd_T44 x5 x7).f0) ((rd_T44 x5 x7).f1)) else (if ((rd_T44 x5 x7).f1) ≤ ((rd_T44 x5 x7).f0) then (span_Check.j1 k x0 x7 x5 x6 x7 true ((rd_T44 x5 x7).f0) ((rd_T44 x5 x7).f1)) else (span_Check.j1 k x0 x7 x5 x6 x7 (decide (((rd_T44 x5 x7).f1) > 2147483647)) ((rd_T44 x5 x7).f0) ((rd_T44 x5 x7).f1)))) else (none)) else (none)) else (some 0)
def span_Check.j1 : Nat → List (S44) → Int → List (S44) → Int → Int → Bool → Int → Int → Option (Int)
 | 0, _, _, _, _, _, _, _, _ => none
 | k + 1, x0, x3, x5, x6, x7, x26, x385000, x385001 => if x26 = true then (some 2) else (if x3 > 0 then (if 0 ≤ (wrap64 (x3 - 1)) then (if (wrap64 (x3 - 1)) < (x0.length : Int) then (if x385000 ≤ ((rd_T44 x0 (wrap64 (x3 - 1))).f1) then (some 5) else (span_Check.l0 k x0 x5 x6 (wrap64 (x7 + 1)))) else (none)) else (none)) else (span_Check.l0 k x0 x5 x6 (wrap64 (x7 + 1))))
end
def span_Check.f (k : Nat) (l0 : List (S44)) : Option (Int) := span_Check.l0 k l0 l0 (l0.length : Int) 0
theorem span_Check.mono_l : ∀ k, (∀ y0 y1 y2 y3, LeO (span_Check.l0 k y0 y1 y2 y3) (span_Check.l0 (k + 1) y0 y1 y2 y3)) ∧ (∀ y0 y1 y2 y3 y4 y5 y6 y7, LeO (span_Check.j1 k y0 y1 y2 y3 y4 y5 y6 y7) (span_Check.j1 (k + 1) y0 y1 y2 y3 y4 y5 y6 y7))
 | 0 => ⟨fun _ _ _ _ r h => by simp [span_Check.l0] at h, fun _ _ _ _ _ _ _ _ r h => by simp [span_Check.j1] at h⟩
 | k + 1 => by
  obtain ⟨ih0, ih1⟩ := span_Check.mono_l k
  refine ⟨?_, ?_⟩
  ·intro y0 y1 y2 y3
   unfold span_Check.l0
   repeat' first
   | (with_reducible exact ih0 _ _ _ _)
   | (with_reducible exact ih1 _ _ _ _ _ _ _ _)
   | (with_reducible exact LeO.refl _)
   | (with_reducible exact LeO.none _)
   | (with_reducible refine LeO.ite ?_ ?_)
   | (with_reducible refine LeO.bind ?_ (fun _ => ?_))
   | exact ih0 _ _ _ _
   | exact ih1 _ _ _ _ _ _ _ _
   | exact LeO.none _
   | refine LeO.ite ?_ ?_
   | refine LeO.bind ?_ (fun _ => ?_)
  ·intro y0 y1 y2 y3 y4 y5 y6 y7
   unfold span_Check.j1
   repeat' first
   | (with_reducible exact ih0 _ _ _ _)
   | (with_reducible exact ih1 _ _ _ _ _ _ _ _)
   | (with_reducible exact LeO.refl _)
   | (with_reducible exact LeO.none _)
   | (with_reducible refine LeO.ite ?_ ?_)
   | (with_reducible refine LeO.bind ?_ (fun _ => ?_))
   | exact ih0 _ _ _ _
   | exact ih1 _ _ _ _ _ _ _ _
   | exact LeO.none _
   | refine LeO.ite ?_ ?_
   | refine LeO.bind ?_ (fun _ => ?_)
theorem span_Check.mono : ∀ a0 k, LeO (span_Check.f k a0) (span_Check.f (k + 1) a0) := by
 intro a0 k
 obtain ⟨ih0, ih1⟩ := span_Check.mono_l k
 unfold span_Check.f
 repeat' first
   | (with_reducible exact ih0 _ _ _ _)
   | (with_reducible exact ih1 _ _ _ _ _ _ _ _)
   | (with_reducible exact LeO.refl _)
   | (with_reducible exact LeO.none _)
   | (with_reducible refine LeO.ite ?_ ?_)
   | (with_reducible refine LeO.bind ?_ (fun _ => ?_))
   | exact ih0 _ _ _ _
   | exact ih1 _ _ _ _ _ _ _ _
   | exact LeO.none _
   | refine LeO.ite ?_ ?_
   | refine LeO.bind ?_ (fun _ => ?_)
set_option maxHeartbeats 8000000 in
set_option maxRecDepth 100000 in
theorem span_Check.calls (k : Nat) (A0 : Option Addr) (c0 : Nat) (l0 : List (S44)) (r : Int) (w : World) (hr0 : Kd.C k44 w A0 l0.length l0) (hc0 : l0.length ≤ c0) (h : span_Check.f k l0 = some r) :
  Calls Try.prog 57 #[.slice A0 l0.length c0] w fun e w' => e = .returned (.int .i64 r) ∧ Below w.heap.size w w' := by
 have hu44 := Try.underlying44
 have HR0 := Aside0.mk hr0
 have HC0 := Aside0.mk hc0
 clear hr0 hc0
 have HB := Aside0.mk (Below.refl w.heap.size w)
 have H : (span_Check.l0 k l0 l0 (l0.length : Int) 0) = some r := h
 clear h
 have H' := Aside0.mk H
 clear H
 go_enter Try.func57, Try.ntmps57
 go_wp2
 repeat (go_quiet (fail); try go_wp2)
 go_loopg [7] k (fun kq v7 w' => ∃ (x7_1 : Int), v7 = .int .i64 x7_1 ∧ Aside0 (span_Check.l0 kq l0 l0 (l0.length : Int) x7_1 = some r) ∧ Aside0 (kq ≤ k) ∧ Aside0 (Below w.heap.size w w'))
 case atStart => exact ⟨(0), (by first | rfl | (simp; done) | (simp [*]; done)), H', ⟨Nat.le_refl _⟩, ⟨by repeat (first | (with_reducible first | exact HB.out | apply below_alloc | apply pw_below_drewN | apply below_drew1) | exact HB.out)⟩⟩
 case round =>
  clear H'
  obtain ⟨x7_1, rfl, HA, HK1, HB⟩ := hrel
  cases gk with
  | zero => exact absurd HA.out (by simp [span_Check.l0])
  | succ k1 =>
   have H := HA.out
   clear HA
   simp only [span_Check.l0] at H
   by_cases c2 : x7_1 < (l0.length : Int)
   ·rw [if_pos c2] at H
    have c2b0 : decide (x7_1 < (l0.length : Int)) = true := decide_eq_true c2
    clear c2
    by_cases c3 : 0 ≤ x7_1
    ·rw [if_pos c3] at H
     have c3b0 : decide (0 ≤ x7_1) = true := decide_eq_true c3
     clear c3
     by_cases c4 : x7_1 < (l0.length : Int)
     ·rw [if_pos c4] at H
      have c4b0 : decide (x7_1 < (l0.length : Int)) = true := decide_eq_true c4
      clear c4
      have HC5 := Aside0.mk H
      clear H
      have p383 : 0 ≤ (x7_1 : Int) := of_decide_eq_true (by assumption)
      have q383 : x7_1 < (l0.length : Int) := of_decide_eq_true (by assumption)
      obtain ⟨ad383, e383, hx383_0, hx383_1⟩ := at_T44 HR0.out x7_1 p383 q383
      cases e383
      replace hx383_0 := (HB.out.cell (World.block_lt_of_cell? w _ hx383_0)).trans hx383_0
      replace hx383_1 := (HB.out.cell (World.block_lt_of_cell? w _ hx383_1)).trans hx383_1
      replace p383 := eq_true p383
      replace q383 := eq_true q383
      go_upto_region 4 with (first | ((with_reducible refine gate_dst (N := 4) rfl ?_); refine box_event ?hg (N := 4) ?hd (cs := #[.int .i64 0, .int .i64 0]) (t := 44) ?hr ?_; (case hd => rfl); (case hg => rfl); (case hr => first | (go_simp; done) | (go_simp; rfl)); intro gb384 hg w6 hbox hb; have n0_ := Aside0.mk (below_step (by with_reducible repeat first | exact HB.out | apply below_alloc | apply pw_below_drewN | apply below_drew1) hb); have n1_ := Aside0.mk (hbox); have n2_ := Aside0.mk ((by rw [hg]; exact (below_size (by with_reducible repeat first | exact HB.out | apply below_alloc | apply pw_below_drewN | apply below_drew1)) : w.heap.size ≤ gb384)); have n3_ := Aside0.mk ((by rw [hg]; exact (below_size (by with_reducible repeat first | exact HB.out | apply below_alloc | apply pw_below_drewN | apply below_drew1)) : w.heap.size ≤ gb384)); clear HB; have HB := n0_; have BK384 := n1_; have GW384 := n2_; have GE384 := n3_; clear n0_ n1_ n2_ n3_; clear hb hbox hg; have hcz7_0 : w6.cell? ⟨gb384, 0, none⟩ = some (.int .i64 0) := (blk_cell BK384.out 0).trans rfl; have hcz7_1 : w6.cell? ⟨gb384, 1, none⟩ = some (.int .i64 0) := (blk_cell BK384.out 1).trans rfl; have hfz7_0 := blk_frozen BK384.out 0; have hfz7_1 := blk_frozen BK384.out 1))
      repeat (go_quiet (first | ((with_reducible refine gate_dst (N := 4) rfl ?_); refine box_event ?hg (N := 4) ?hd (cs := #[.int .i64 0, .int .i64 0]) (t := 44) ?hr ?_; (case hd => rfl); (case hg => rfl); (case hr => first | (go_simp; done) | (go_simp; rfl)); intro gb384 hg w6 hbox hb; have n0_ := Aside0.mk (below_step (by with_reducible repeat first | exact HB.out | apply below_alloc | apply pw_below_drewN | apply below_drew1) hb); have n1_ := Aside0.mk (hbox); have n2_ := Aside0.mk ((by rw [hg]; exact (below_size (by with_reducible repeat first | exact HB.out | apply below_alloc | apply pw_below_drewN | apply below_drew1)) : w.heap.size ≤ gb384)); have n3_ := Aside0.mk ((by rw [hg]; exact (below_size (by with_reducible repeat first | exact HB.out | apply below_alloc | apply pw_below_drewN | apply below_drew1)) : w.heap.size ≤ gb384)); clear HB; have HB := n0_; have BK384 := n1_; have GW384 := n2_; have GE384 := n3_; clear n0_ n1_ n2_ n3_; clear hb hbox hg; have hcz7_0 : w6.cell? ⟨gb384, 0, none⟩ = some (.int .i64 0) := (blk_cell BK384.out 0).trans rfl; have hcz7_1 : w6.cell? ⟨gb384, 1, none⟩ = some (.int .i64 0) := (blk_cell BK384.out 1).trans rfl; have hfz7_0 := blk_frozen BK384.out 0; have hfz7_1 := blk_frozen BK384.out 1)); go_upto_region 4 with (first | ((with_reducible refine gate_dst (N := 4) rfl ?_); refine box_event ?hg (N := 4) ?hd (cs := #[.int .i64 0, .int .i64 0]) (t := 44) ?hr ?_; (case hd => rfl); (case hg => rfl); (case hr => first | (go_simp; done) | (go_simp; rfl)); intro gb384 hg w6 hbox hb; have n0_ := Aside0.mk (below_step (by with_reducible repeat first | exact HB.out | apply below_alloc | apply pw_below_drewN | apply below_drew1) hb); have n1_ := Aside0.mk (hbox); have n2_ := Aside0.mk ((by rw [hg]; exact (below_size (by with_reducible repeat first | exact HB.out | apply below_alloc | apply pw_below_drewN | apply below_drew1)) : w.heap.size ≤ gb384)); have n3_ := Aside0.mk ((by rw [hg]; exact (below_size (by with_reducible repeat first | exact HB.out | apply below_alloc | apply pw_below_drewN | apply below_drew1)) : w.heap.size ≤ gb384)); clear HB; have HB := n0_; have BK384 := n1_; have GW384 := n2_; have GE384 := n3_; clear n0_ n1_ n2_ n3_; clear hb hbox hg; have hcz7_0 : w6.cell? ⟨gb384, 0, none⟩ = some (.int .i64 0) := (blk_cell BK384.out 0).trans rfl; have hcz7_1 : w6.cell? ⟨gb384, 1, none⟩ = some (.int .i64 0) := (blk_cell BK384.out 1).trans rfl; have hfz7_0 := blk_frozen BK384.out 0; have hfz7_1 := blk_frozen BK384.out 1)))
      (try simp only [Act.put, List.setIfInBounds_toArray, List.set_cons_zero, List.set_cons_succ])
      go_cut [26] (fun v26 wc => ∃ (kq : Nat) (x26_4 : Bool), v26 = .bool x26_4 ∧ Aside0 (span_Check.j1 kq l0 x7_1 l0 (l0.length : Int) x7_1 x26_4 ((rd_T44 l0 x7_1).f0) ((rd_T44 l0 x7_1).f1) = some r) ∧ Aside0 (kq ≤ k1) ∧ Aside0 (wc.heap[gb384]? = some (.cells #[.int .i64 ((rd_T44 l0 x7_1).f0), .int .i64 ((rd_T44 l0 x7_1).f1)] 44 (0, 0))) ∧ Aside0 (Below w.heap.size w wc))
      case first =>
       have H := HC5.out
       clear HC5
       by_cases c8 : ((rd_T44 l0 x7_1).f0) < 0
       ·rw [if_pos c8] at H
        have c8b0 : decide (((rd_T44 l0 x7_1).f0) < 0) = true := decide_eq_true c8
        clear c8
        (first | rw [c8b0] | (simp only [i64_w, i32_w]; rw [c8b0]) | skip)
        have H' := Aside0.mk H
        clear H
        have hcz9_0 : w6.cell? ⟨gb384, 0, none⟩ = some (.int .i64 0) := (blk_cell BK384.out 0).trans rfl
        have hcz9_1 : w6.cell? ⟨gb384, 1, none⟩ = some (.int .i64 0) := (blk_cell BK384.out 1).trans rfl
        have hfz9_0 := blk_frozen BK384.out 0
        have hfz9_1 := blk_frozen BK384.out 1
        go_wp2
        repeat (go_quiet (fail); try go_wp2)
        go_meet
        case rel => exact ⟨_, (true), (by first | rfl | (simp; done) | (simp [*]; done)), H', ⟨by have := HK1.out; first | omega | exact Nat.le_refl _⟩, ⟨by (with_reducible repeat (first | refine blk_drewN ?_ _ | refine blk_drew ?_ | refine blk_alloc ?_ _)); refine blk_put (cs := #[.int .i64 ((rd_T44 l0 x7_1).f0), .int .i64 0]) ?_ 1 _ rfl; (with_reducible repeat (first | refine blk_drewN ?_ _ | refine blk_drew ?_ | refine blk_alloc ?_ _)); refine blk_put (cs := #[.int .i64 0, .int .i64 0]) ?_ 0 _ rfl; (with_reducible repeat (first | refine blk_drewN ?_ _ | refine blk_drew ?_ | refine blk_alloc ?_ _)); exact BK384.out⟩, ⟨by repeat (first | (with_reducible first | exact HB.out | apply below_alloc | apply pw_below_drewN | apply below_drew1 | refine below_set ?_ GE384.out) | exact HB.out)⟩⟩
       ·rw [if_neg c8] at H
        have c8b0 : decide (((rd_T44 l0 x7_1).f0) < 0) = false := decide_eq_false c8
        clear c8
        (first | rw [c8b0] | (simp only [i64_w, i32_w]; rw [c8b0]) | skip)
        by_cases c10 : ((rd_T44 l0 x7_1).f1) ≤ ((rd_T44 l0 x7_1).f0)
        ·rw [if_pos c10] at H
         have c10b0 : decide (((rd_T44 l0 x7_1).f1) ≤ ((rd_T44 l0 x7_1).f0)) = true := decide_eq_true c10
         clear c10
         have H' := Aside0.mk H
         clear H
         have hcz11_0 : w6.cell? ⟨gb384, 0, none⟩ = some (.int .i64 0) := (blk_cell BK384.out 0).trans rfl
         have hcz11_1 : w6.cell? ⟨gb384, 1, none⟩ = some (.int .i64 0) := (blk_cell BK384.out 1).trans rfl
         have hfz11_0 := blk_frozen BK384.out 0
         have hfz11_1 := blk_frozen BK384.out 1
         go_wp2
         repeat (go_quiet (fail); try go_wp2)
         go_meet
         case rel => exact ⟨_, (true), (by first | rfl | (simp; done) | (simp [*]; done)), H', ⟨by have := HK1.out; first | omega | exact Nat.le_refl _⟩, ⟨by (with_reducible repeat (first | refine blk_drewN ?_ _ | refine blk_drew ?_ | refine blk_alloc ?_ _)); refine blk_put (cs := #[.int .i64 ((rd_T44 l0 x7_1).f0), .int .i64 0]) ?_ 1 _ rfl; (with_reducible repeat (first | refine blk_drewN ?_ _ | refine blk_drew ?_ | refine blk_alloc ?_ _)); refine blk_put (cs := #[.int .i64 0, .int .i64 0]) ?_ 0 _ rfl; (with_reducible repeat (first | refine blk_drewN ?_ _ | refine blk_drew ?_ | refine blk_alloc ?_ _)); exact BK384.out⟩, ⟨by repeat (first | (with_reducible first | exact HB.out | apply below_alloc | apply pw_below_drewN | apply below_drew1 | refine below_set ?_ GE384.out) | exact HB.out)⟩⟩
        ·rw [if_neg c10] at H
         have c10b0 : decide (((rd_T44 l0 x7_1).f1) ≤ ((rd_T44 l0 x7_1).f0)) = false := decide_eq_false c10
         clear c10
         have H' := Aside0.mk H
         clear H
         have hcz12_0 : w6.cell? ⟨gb384, 0, none⟩ = some (.int .i64 0) := (blk_cell BK384.out 0).trans rfl
         have hcz12_1 : w6.cell? ⟨gb384, 1, none⟩ = some (.int .i64 0) := (blk_cell BK384.out 1).trans rfl
         have hfz12_0 := blk_frozen BK384.out 0
         have hfz12_1 := blk_frozen BK384.out 1
         go_wp2
         repeat (go_quiet (fail); try go_wp2)
         go_meet
         case rel => exact ⟨_, (decide (((rd_T44 l0 x7_1).f1) > 2147483647)), (by first | rfl | (simp; done) | (simp [*]; done)), H', ⟨by have := HK1.out; first | omega | exact Nat.le_refl _⟩, ⟨by (with_reducible repeat (first | refine blk_drewN ?_ _ | refine blk_drew ?_ | refine blk_alloc ?_ _)); refine blk_put (cs := #[.int .i64 ((rd_T44 l0 x7_1).f0), .int .i64 0]) ?_ 1 _ rfl; (with_reducible repeat (first | refine blk_drewN ?_ _ | refine blk_drew ?_ | refine blk_alloc ?_ _)); refine blk_put (cs := #[.int .i64 0, .int .i64 0]) ?_ 0 _ rfl; (with_reducible repeat (first | refine blk_drewN ?_ _ | refine blk_drew ?_ | refine blk_alloc ?_ _)); exact BK384.out⟩, ⟨by repeat (first | (with_reducible first | exact HB.out | apply below_alloc | apply pw_below_drewN | apply below_drew1 | refine below_set ?_ GE384.out) | exact HB.out)⟩⟩
      case rest =>
       clear HC5
       try clear c1
       try clear c2
       try clear c2b0
       try clear p2
       try clear c3
       try clear c3b0
       try clear p3
       try clear q3
       try clear hx3
       try clear c4
       try clear c4b0
       try clear c5
       try clear c8
       try clear c8b0
       try clear c10
       try clear c10b0
       try clear hcz11_0
       try clear hcz11_1
       try clear hcz12_0
       try clear hcz12_1
       try clear hcz7_0
       try clear hcz7_1
       try clear hcz9_0
       try clear hcz9_1
       try clear hfz11_0
       try clear hfz11_1
       try clear hfz12_0
       try clear hfz12_1
       try clear hfz7_0
       try clear hfz7_1
       try clear hfz9_0
       try clear hfz9_1
       try clear hx383_0
       try clear hx383_1
       try clear p383
       try clear q383
       obtain ⟨kq, x26_4, rfl, HA, HJ4, BK384, HB⟩ := hcut
       cases kq with
       | zero => exact absurd HA.out (by simp [span_Check.j1])
       | succ kj4 =>
        have H := HA.out
        clear HA
        simp only [span_Check.j1] at H
        by_cases c13 : x26_4 = true
        ·subst c13
         have H1 : (some 2) = some r := by rw [if_pos rfl] at H; exact H
         clear H
         have H := H1
         clear H1
         obtain rfl := Option.some.inj H
         go_wp2
         repeat (go_quiet (fail); try go_wp2)
         go_ret
         exact ⟨by first | rfl | (simp [errW_none, errW_some] <;> rfl) | (simp [*, errW_none, errW_some] <;> rfl), by repeat (first | (with_reducible first | exact HB.out | apply below_alloc | apply pw_below_drewN | apply below_drew1 | refine below_set ?_ GE384.out) | exact HB.out)⟩
        ·replace c13 := Bool.eq_false_iff.mpr c13
         subst c13
         have H1 : (if x7_1 > 0 then (if 0 ≤ (wrap64 (x7_1 - 1)) then (if (wrap64 (x7_1 - 1)) < (l0.length : Int) then (if ((rd_T44 l0 x7_1).f0) ≤ ((rd_T44 l0 (wrap64 (x7_1 - 1))).f1) then (some 5) else (span_Check.l0 kj4 l0 l0 (l0.length : Int) (wrap64 (x7_1 + 1)))) else (none)) else (none)) else (span_Check.l0 kj4 l0 l0 (l0.length : Int) (wrap64 (x7_1 + 1)))) = some r := by rw [if_neg (show ¬ (false = true) by decide)] at H; exact H
         clear H
         have H := H1
         clear H1
         by_cases c14 : x7_1 > 0
         ·rw [if_pos c14] at H
          have c14b0 : decide (0 < x7_1) = true := decide_eq_true c14
          clear c14
          obtain ⟨ji15, hji15⟩ : ∃ j_ : Int, (wrap64 (x7_1 - 1)) = j_ := ⟨_, rfl⟩
          replace H : (if 0 ≤ (ji15) then (if (ji15) < (l0.length : Int) then (if ((rd_T44 l0 x7_1).f0) ≤ ((rd_T44 l0 (ji15)).f1) then (some 5) else (span_Check.l0 kj4 l0 l0 (l0.length : Int) (wrap64 (x7_1 + 1)))) else (none)) else (none)) = some r := by first | (rw [hji15] at H; exact H) | (simp only [hji15] at H ⊢; exact H)
          have hji15w : (IntKind.i64.wrap (x7_1 - 1)) = ji15 := (i64_w _).trans hji15
          by_cases c16 : 0 ≤ (ji15)
          ·rw [if_pos c16] at H
           have c16b0 : decide (0 ≤ (ji15)) = true := decide_eq_true c16
           clear c16
           by_cases c17 : (ji15) < (l0.length : Int)
           ·rw [if_pos c17] at H
            have c17b0 : decide ((ji15) < (l0.length : Int)) = true := decide_eq_true c17
            clear c17
            by_cases c18 : ((rd_T44 l0 x7_1).f0) ≤ ((rd_T44 l0 (ji15)).f1)
            ·rw [if_pos c18] at H
             have c18b0 : decide (((rd_T44 l0 x7_1).f0) ≤ ((rd_T44 l0 (ji15)).f1)) = true := decide_eq_true c18
             clear c18
             obtain rfl := Option.some.inj H
             have hcz19_0 : wc.cell? ⟨gb384, 0, none⟩ = some (.int .i64 ((rd_T44 l0 x7_1).f0)) := (blk_cell BK384.out 0).trans rfl
             have hcz19_1 : wc.cell? ⟨gb384, 1, none⟩ = some (.int .i64 ((rd_T44 l0 x7_1).f1)) := (blk_cell BK384.out 1).trans rfl
             have hfz19_0 := blk_frozen BK384.out 0
             have hfz19_1 := blk_frozen BK384.out 1
             have p385 : 0 ≤ ((ji15) : Int) := of_decide_eq_true (by assumption)
             have q385 : (ji15) < (l0.length : Int) := of_decide_eq_true (by assumption)
             obtain ⟨ad385, e385, hx385_0, hx385_1⟩ := at_T44 HR0.out (ji15) p385 q385
             obtain rfl : ad383 = ad385 := (by injection e385)
             replace hx385_0 := (HB.out.cell (World.block_lt_of_cell? w _ hx385_0)).trans hx385_0
             replace hx385_1 := (HB.out.cell (World.block_lt_of_cell? w _ hx385_1)).trans hx385_1
             replace p385 := eq_true p385
             replace q385 := eq_true q385
             go_wp2
             repeat (go_quiet (fail); try go_wp2)
             go_ret
             exact ⟨by first | rfl | (simp [errW_none, errW_some] <;> rfl) | (simp only [← hji15]; first | rfl | (simp [errW_none, errW_some] <;> rfl)) | (simp [*, errW_none, errW_some] <;> rfl), by repeat (first | (with_reducible first | exact HB.out | apply below_alloc | apply pw_below_drewN | apply below_drew1 | refine below_set ?_ GE384.out) | exact HB.out)⟩
            ·rw [if_neg c18] at H
             have c18b0 : decide (((rd_T44 l0 x7_1).f0) ≤ ((rd_T44 l0 (ji15)).f1)) = false := decide_eq_false c18
             clear c18
             have H' := Aside0.mk H
             clear H
             have hcz20_0 : wc.cell? ⟨gb384, 0, none⟩ = some (.int .i64 ((rd_T44 l0 x7_1).f0)) := (blk_cell BK384.out 0).trans rfl
             have hcz20_1 : wc.cell? ⟨gb384, 1, none⟩ = some (.int .i64 ((rd_T44 l0 x7_1).f1)) := (blk_cell BK384.out 1).trans rfl
             have hfz20_0 := blk_frozen BK384.out 0
             have hfz20_1 := blk_frozen BK384.out 1
             have p385 : 0 ≤ ((ji15) : Int) := of_decide_eq_true (by assumption)
             have q385 : (ji15) < (l0.length : Int) := of_decide_eq_true (by assumption)
             obtain ⟨ad385, e385, hx385_0, hx385_1⟩ := at_T44 HR0.out (ji15) p385 q385
             obtain rfl : ad383 = ad385 := (by injection e385)
             replace hx385_0 := (HB.out.cell (World.block_lt_of_cell? w _ hx385_0)).trans hx385_0
             replace hx385_1 := (HB.out.cell (World.block_lt_of_cell? w _ hx385_1)).trans hx385_1
             replace p385 := eq_true p385
             replace q385 := eq_true q385
             go_wp2
             repeat (go_quiet (fail); try go_wp2)
             go_roundg kj4
             case measure => have := HK1.out; have := HJ4.out; omega
             case rel => exact ⟨(wrap64 (x7_1 + 1)), (by first | rfl | (simp; done) | (simp [*]; done)), H', ⟨by have := HK1.out; have := HJ4.out; omega⟩, ⟨by repeat (first | (with_reducible first | exact HB.out | apply below_alloc | apply pw_below_drewN | apply below_drew1 | refine below_set ?_ GE384.out) | exact HB.out)⟩⟩
           ·rw [if_neg c17] at H
            exact absurd H (by simp)
          ·rw [if_neg c16] at H
           exact absurd H (by simp)
         ·rw [if_neg c14] at H
          have c14b0 : decide (0 < x7_1) = false := decide_eq_false c14
          clear c14
          have H' := Aside0.mk H
          clear H
          go_wp2
          repeat (go_quiet (fail); try go_wp2)
          go_roundg kj4
          case measure => have := HK1.out; have := HJ4.out; omega
          case rel => exact ⟨(wrap64 (x7_1 + 1)), (by first | rfl | (simp; done) | (simp [*]; done)), H', ⟨by have := HK1.out; have := HJ4.out; omega⟩, ⟨by repeat (first | (with_reducible first | exact HB.out | apply below_alloc | apply pw_below_drewN | apply below_drew1 | refine below_set ?_ GE384.out) | exact HB.out)⟩⟩
     ·rw [if_neg c4] at H
      exact absurd H (by simp)
    ·rw [if_neg c3] at H
     exact absurd H (by simp)
   ·rw [if_neg c2] at H
    have c2b0 : decide (x7_1 < (l0.length : Int)) = false := decide_eq_false c2
    clear c2
    obtain rfl := Option.some.inj H
    go_wp2
    repeat (go_quiet (fail); try go_wp2)
    go_ret
    exact ⟨by first | rfl | (simp [errW_none, errW_some] <;> rfl) | (simp [*, errW_none, errW_some] <;> rfl), by repeat (first | (with_reducible first | exact HB.out | apply below_alloc | apply pw_below_drewN | apply below_drew1) | exact HB.out)⟩
def span_add.f (l0 : List (S44)) (a1_0 : Int) (a1_1 : Int) : Option ((List (S44))) := if (wrap64 ((l0.length : Int) - 1)) ≥ 0 then (if 0 ≤ (wrap64 ((l0.length : Int) - 1)) then (if (wrap64 ((l0.length : Int) - 1)) < (l0.length : Int) then (if a1_0 ≤ ((rd_T44 l0 (wrap64 ((l0.length : Int) - 1))).f1) then (some (l0.set ((wrap64 ((l0.length : Int) - 1)) : Int).toNat (⟨(rd_T44 l0 (wrap64 ((l0.length : Int) - 1))).f0, mx ((rd_T44 l0 (wrap64 ((l0.length : Int) - 1))).f1) a1_1⟩ : S44))) else (if l0.length < 8796093022208 then (some (l0 ++ [(⟨a1_0, a1_1⟩ : S44)])) else (none))) else (none)) else (none)) else (if l0.length < 8796093022208 then (some (l0 ++ [(⟨a1_0, a1_1⟩ : S44)])) else (none))
def span_add.T2 : Bool × List (List Nat × List Nat) := (true, [([], []), ([0], [0]), ([1], [1]), ([2], [2]), ([3, 2], [2, 3]), ([2], [2]), ([2], [2]), ([5, 6, 2], [2, 5, 6]), ([7, 2], [2, 7]), ([8, 2], [2, 8]), ([4, 9, 2], [2, 4, 9]), ([2, 10], [2, 10])])
def span_add.B2 : List Nat := [0, 1, 3, 7, 15, 7, 7, 103, 231, 487, 1023, 2047]
theorem span_add.tab2 : rtab .any (opsOf Try.f60 2) = span_add.T2 := by kernel_rfl
theorem span_add.bits2 : waitsOk span_add.T2.2 span_add.B2 = true := by kernel_rfl
def span_add.T3 : Bool × List (List Nat × List Nat) := (true, [([], []), ([], []), ([], []), ([], []), ([2, 3], [2, 3]), ([4], [4]), ([5], [5]), ([], []), ([7], [7]), ([6, 8], [6, 8]), ([0, 1, 0, 1, 2, 3, 4, 5, 6, 7, 8, 9], [0, 1]), ([10, 0, 1, 2, 3, 4, 5, 6, 7, 8, 9], [10]), ([11, 9, 0, 1, 2, 3, 4, 5, 6, 7, 8, 9], [9, 11])])
def span_add.B3 : List Nat := [0, 0, 0, 0, 12, 28, 60, 0, 128, 508, 1023, 2047, 4095]
theorem span_add.tab3 : rtab .any (opsOf Try.f60 3) = span_add.T3 := by kernel_rfl
theorem span_add.bits3 : waitsOk span_add.T3.2 span_add.B3 = true := by kernel_rfl
set_option maxHeartbeats 8000000 in
set_option maxRecDepth 100000 in
theorem span_add.calls (P0_ : Nat → Prop) (u9000_ : Value) (l0 : List (S44)) (a1_0 : Int) (a1_1 : Int) (r : List (S44)) (w0 w : World) (hB : Below w0.heap.size w0 w) (ho0 : Kd.R k44 44 w w0.heap.size P0_ u9000_ l0) (h : span_add.f l0 a1_0 a1_1 = some r) :
  Calls Try.prog 60 #[u9000_, .agg #[.int .i64 a1_0, .int .i64 a1_1]] w fun e w' => ∃ v0_ : Value, e = .returned (v0_) ∧ Kd.R k44 44 w' w0.heap.size (fun k_ => (P0_ k_ ∨ w.heap.size ≤ k_)) v0_ r ∧ Below w0.heap.size w0 w' ∧ Kept w w' (fun k_ => P0_ k_) := by
 have hu44 := Try.underlying44
 have HO0 := Aside0.mk (show Kd.R k44 44 w w0.heap.size (fun k_ => (P0_ k_ ∨ w.heap.size ≤ k_)) u9000_ l0 from Kd.R_mono ho0 (fun k_ hk => (.inl hk)))
 have HK := Aside0.mk (Kept.refl w (fun k_ => P0_ k_))
 have HW0 := Aside0.mk hB.size
 have HB := Aside0.mk hB
 clear hB
 have H : (if (wrap64 ((l0.length : Int) - 1)) ≥ 0 then (if 0 ≤ (wrap64 ((l0.length : Int) - 1)) then (if (wrap64 ((l0.length : Int) - 1)) < (l0.length : Int) then (if a1_0 ≤ ((rd_T44 l0 (wrap64 ((l0.length : Int) - 1))).f1) then (some (l0.set ((wrap64 ((l0.length : Int) - 1)) : Int).toNat (⟨(rd_T44 l0 (wrap64 ((l0.length : Int) - 1))).f0, mx ((rd_T44 l0 (wrap64 ((l0.length : Int) - 1))).f1) a1_1⟩ : S44))) else (if l0.length < 8796093022208 then (some (l0 ++ [(⟨a1_0, a1_1⟩ : S44)])) else (none))) else (none)) else (none)) else (if l0.length < 8796093022208 then (some (l0 ++ [(⟨a1_0, a1_1⟩ : S44)])) else (none))) = some r := h
 clear h
 by_cases c3 : (wrap64 ((l0.length : Int) - 1)) ≥ 0
 ·rw [if_pos c3] at H
  have c3b0 : decide (0 ≤ (wrap64 ((l0.length : Int) - 1))) = true := decide_eq_true c3
  clear c3
  obtain ⟨ji4, hji4⟩ : ∃ j_ : Int, (wrap64 ((l0.length : Int) - 1)) = j_ := ⟨_, rfl⟩
  replace H : (if 0 ≤ (ji4) then (if (ji4) < (l0.length : Int) then (if a1_0 ≤ ((rd_T44 l0 (ji4)).f1) then (some (l0.set ((ji4) : Int).toNat (⟨(rd_T44 l0 (ji4)).f0, mx ((rd_T44 l0 (ji4)).f1) a1_1⟩ : S44))) else (if l0.length < 8796093022208 then (some (l0 ++ [(⟨a1_0, a1_1⟩ : S44)])) else (none))) else (none)) else (none)) = some r := by first | (rw [hji4] at H; exact H) | (simp only [hji4] at H ⊢; exact H)
  (try rw [hji4] at c3b0)
  have hji4w : (IntKind.i64.wrap ((l0.length : Int) - 1)) = ji4 := (i64_w _).trans hji4
  by_cases c5 : 0 ≤ (ji4)
  ·rw [if_pos c5] at H
   have c5b0 : decide (0 ≤ (ji4)) = true := decide_eq_true c5
   clear c5
   by_cases c6 : (ji4) < (l0.length : Int)
   ·rw [if_pos c6] at H
    have c6b0 : decide ((ji4) < (l0.length : Int)) = true := decide_eq_true c6
    clear c6
    by_cases c7 : a1_0 ≤ ((rd_T44 l0 (ji4)).f1)
    ·rw [if_pos c7] at H
     have c7b0 : decide (a1_0 ≤ ((rd_T44 l0 (ji4)).f1)) = true := decide_eq_true c7
     clear c7
     obtain ⟨ji8, hji8⟩ : ∃ j_ : Int, (mx ((rd_T44 l0 (ji4)).f1) a1_1) = j_ := ⟨_, rfl⟩
     replace H : (some (l0.set ((ji4) : Int).toNat (⟨(rd_T44 l0 (ji4)).f0, ji8⟩ : S44))) = some r := by first | (rw [hji8] at H; exact H) | (simp only [hji8] at H ⊢; exact H)
     have hji8_ : (if ((rd_T44 l0 (ji4)).f1) < a1_1 then a1_1 else ((rd_T44 l0 (ji4)).f1)) = ji8 := hji8
     obtain ⟨y389, hy389⟩ : ∃ y_ : List (S44), y_ = (l0.set ((ji4) : Int).toNat (⟨(rd_T44 l0 (ji4)).f0, ji8⟩ : S44)) := ⟨_, rfl⟩
     replace H : (some y389) = some r := by first | (rw [hy389]; with_reducible exact H) | (have H2_ := (Option.bind_some _ _).symm.trans H; rw [hy389]; with_reducible exact H2_) | (have H2_ := (Option.bind_some _ _).symm.trans H; with_reducible exact H2_) | with_reducible exact H | (rw [hy389]; exact H) | exact H
     have Ny389 := Aside0.mk hy389
     clear hy389
     obtain rfl := Option.some.inj H
     go_enter Try.func60, Try.ntmps60
     try go_wp2_with (first | ((with_reducible refine gate_dst (N := 3) rfl ?_); refine box_event ?hg (N := 3) ?hd (cs := #[.int .i64 a1_0, .int .i64 a1_1]) (t := 44) ?hr ?_; (case hd => rfl); (case hg => rfl); (case hr => first | (go_simp; done) | (go_simp; rfl)); intro gb386 hg w10 hbox hb; have n0_ := Aside0.mk (Kd.R_below (Kd.R_elderB (by (with_reducible repeat (first | apply Kd.R_alloc | apply Kd.R_drewN | apply Kd.R_drew)); exact HO0.out) gb386 (Nat.le_of_eq hg.symm)) hb); have n1_ := Aside0.mk (Kept.below (S := (fun k_ => P0_ k_)) (by repeat (first | (with_reducible first | exact HK.out | apply Kept.alloc | apply Kept.drewN | apply Kept.drew) | exact HK.out)) hb); have n2_ := Aside0.mk (below_step (by with_reducible repeat first | exact HB.out | apply below_alloc | apply pw_below_drewN | apply below_drew1) hb); have n3_ := Aside0.mk (hbox); have n4_ := Aside0.mk ((by rw [hg]; exact (by first | exact HK.out.1 | exact (show Kept w _ (fun k_ => P0_ k_) from by repeat (first | (with_reducible first | exact HK.out | apply Kept.alloc | apply Kept.drewN | apply Kept.drew) | exact HK.out)).1) : w.heap.size ≤ gb386)); have n5_ := Aside0.mk ((by rw [hg]; exact (below_size (by with_reducible repeat first | exact HB.out | apply below_alloc | apply pw_below_drewN | apply below_drew1)) : w0.heap.size ≤ gb386)); clear HO0; clear HK; clear HB; have HO0 := n0_; have HK := n1_; have HB := n2_; have BK386 := n3_; have GW386 := n4_; have GE386 := n5_; clear n0_ n1_ n2_ n3_ n4_ n5_; clear hb hbox hg; obtain ⟨Ao11, co11, eo11⟩ := Kd.R_slice HO0.out; subst eo11))
     have n0_ := Aside0.mk (Kd.R_drew HO0.out)
     have n1_ := Aside0.mk (blk_drew BK386.out)
     have n2_ := Aside0.mk (Kept.drew HK.out)
     have n3_ := Aside0.mk (below_drew1 HB.out)
     clear HO0
     clear BK386
     clear HK
     clear HB
     have HO0 := n0_
     have BK386 := n1_
     have HK := n2_
     have HB := n3_
     clear n0_ n1_ n2_ n3_
     have p387 : 0 ≤ ((ji4) : Int) := of_decide_eq_true (by assumption)
     have q387 : (ji4) < (l0.length : Int) := of_decide_eq_true (by assumption)
     obtain ⟨ad387, e387, hx387_0, hx387_1⟩ := at_T44 (Kd.R_reads' HO0.out).2.2 (ji4) p387 q387
     cases e387
     replace p387 := eq_true p387
     replace q387 := eq_true q387
     refine start_ (n := 12) (S := fun w' => w'.cell? ⟨gb386, 0, none⟩ = some (.int .i64 a1_0) ∧ w'.cell? ⟨gb386, 1, none⟩ = some (.int .i64 a1_1) ∧ w'.cell? (ad387.add (((ji4)).toNat * 2)) = some (.int .i64 ((rd_T44 l0 (ji4)).f0)) ∧ w'.cell? ⟨(ad387.add (((ji4)).toNat * 2)).block, (ad387.add (((ji4)).toNat * 2)).off + 1, none⟩ = some (.int .i64 ((rd_T44 l0 (ji4)).f1))) (ds := []) #[false, false, false, false, false, false, false, false, false, false, false, false] (by kernel_rfl) rfl rfl ⟨(blk_cell BK386.out 0).trans rfl, (blk_cell BK386.out 1).trans rfl, hx387_0, hx387_1⟩ (fun hHeld => ?_); refine with_tabW span_add.tab2 span_add.bits2 (fun HT_ HW_ => ?_)
     generalize w10.drew = w12 at HO0 BK386 HK HB hx387_0 hx387_1 hHeld ⊢
     refine pure_ (i := 0) (N := some 9) (v := ?_) (a' := ?_) (bm 1 12) rfl rfl (any_of HT_.out (by kernel_rfl)) (fun _ _ _ h => h) (Or.inl ⟨by rfl, ?_⟩) ?_ ?_
     rotate_left
     ·intro w'
      go_simp
      with_reducible rfl
     rotate_left
     ·simp only [Act.put, sA, sB, sC, i64_w, i32_w]
      rfl
     refine pure_ (i := 1) (N := some 10) (v := ?_) (a' := ?_) (bm 3 12) rfl rfl (any_of HT_.out (by kernel_rfl)) (fun _ _ _ h => h) (Or.inl ⟨by rfl, ?_⟩) ?_ ?_
     rotate_left
     ·intro w'
      go_simp
      with_reducible rfl
     rotate_left
     ·simp only [Act.put, sA, sB, sC, i64_w, i32_w]
      rfl
     refine pure_ (i := 2) (N := some 11) (v := ?_) (a' := ?_) (bm 7 12) rfl rfl (any_of HT_.out (by kernel_rfl)) (fun _ _ _ h => h) (Or.inl ⟨by rfl, ?_⟩) ?_ ?_
     rotate_left
     ·intro w'
      go_simp
      with_reducible rfl
     rotate_left
     ·simp only [Act.put, sA, sB, sC, i64_w, i32_w]
      rfl
     refine pure_ (i := 3) (N := some 12) (v := ?_) (a' := ?_) (bm 15 12) rfl rfl (any_of HT_.out (by kernel_rfl)) (fun _ _ _ h => h) (Or.inl ⟨by rfl, ?_⟩) ?_ ?_
     rotate_left
     ·intro w'
      go_simp
      with_reducible rfl
     rotate_left
     ·simp only [Act.put, sA, sB, sC, i64_w, i32_w]
      rfl
     refine pure_ (i := 5) (N := some 14) (v := ?_) (a' := ?_) (bm 47 12) rfl rfl (any_of HT_.out (by kernel_rfl)) (fun _ _ _ h => h) (Or.inl ⟨by rfl, ?_⟩) ?_ ?_
     rotate_left
     ·intro w'
      go_simp
      with_reducible rfl
     rotate_left
     ·simp only [Act.put, sA, sB, sC, i64_w, i32_w]
      rfl
     refine pure_ (i := 6) (N := some 15) (v := ?_) (a' := ?_) (bm 111 12) rfl rfl (any_of HT_.out (by kernel_rfl)) (fun _ _ _ h => h) (Or.inl ⟨by rfl, ?_⟩) ?_ ?_
     rotate_left
     ·intro w'
      go_simp
      with_reducible rfl
     rotate_left
     ·simp only [Act.put, sA, sB, sC, i64_w, i32_w]
      rfl
     refine pure_ (i := 7) (N := some 16) (v := ?_) (a' := ?_) (bm 239 12) rfl rfl (any_of HT_.out (by kernel_rfl)) (fun _ _ _ h => h) (Or.inl ⟨by rfl, ?_⟩) ?_ ?_
     rotate_left
     ·intro w'
      go_simp
      with_reducible rfl
     rotate_left
     ·simp only [Act.put, sA, sB, sC, i64_w, i32_w]
      rfl
     refine pure_ (i := 8) (N := some 17) (v := ?_) (a' := ?_) (bm 495 12) rfl rfl (any_of HT_.out (by kernel_rfl)) (fun _ _ _ h => h) (Or.inl ⟨by rfl, ?_⟩) ?_ ?_
     rotate_left
     ·intro w'
      go_simp
      with_reducible rfl
     rotate_left
     ·simp only [Act.put, sA, sB, sC, i64_w, i32_w]
      rfl
     refine take_ (i := 4) (N := some 13) (v := ?_) (a' := ?_) (bm 511 12) rfl rfl (take_ofW HT_.out HW_.out (by kernel_rfl)) (fun _ _ _ h => h) (Or.inl ⟨by rfl, ?_⟩) hHeld ?_ ?_
     rotate_left
     ·rintro w' ⟨s0, s1, s2, s3⟩
      go_simp
      with_reducible rfl
     rotate_left
     ·simp only [Act.put, sA, sB, sC, i64_w, i32_w]
      rfl
     refine take_ (i := 9) (N := some 18) (v := ?_) (a' := ?_) (bm 1023 12) rfl rfl (take_ofW HT_.out HW_.out (by kernel_rfl)) (fun _ _ _ h => h) (Or.inl ⟨by rfl, ?_⟩) hHeld ?_ ?_
     rotate_left
     ·rintro w' ⟨s0, s1, s2, s3⟩
      go_simp
      with_reducible rfl
     rotate_left
     ·simp only [Act.put, sA, sB, sC, i64_w, i32_w]
      rfl
     refine pure_ (i := 10) (N := some 19) (v := ?_) (a' := ?_) (bm 2047 12) rfl rfl (any_of HT_.out (by kernel_rfl)) (fun _ _ _ h => h) (Or.inl ⟨by rfl, ?_⟩) ?_ ?_
     rotate_left
     ·intro w'
      go_simp
      with_reducible rfl
     rotate_left
     ·simp only [Act.put, sA, sB, sC, i64_w, i32_w]
      rfl
     refine pure_ (i := 11) (N := some 20) (v := ?_) (a' := ?_) (bm 4095 12) rfl rfl (any_of HT_.out (by kernel_rfl)) (fun _ _ _ h => h) (Or.inl ⟨by rfl, ?_⟩) ?_ ?_
     rotate_left
     ·intro w'
      go_simp
      with_reducible rfl
     rotate_left
     ·simp only [Act.put, sA, sB, sC, i64_w, i32_w]
      rfl
     refine done_ (done_of HT_.out (by kernel_rfl)) ?_
     try go_wp2
     have n0_ := Aside0.mk (Kd.R_drew HO0.out)
     have n1_ := Aside0.mk (blk_drew BK386.out)
     have n2_ := Aside0.mk (Kept.drew HK.out)
     have n3_ := Aside0.mk (below_drew1 HB.out)
     clear HO0
     clear BK386
     clear HK
     clear HB
     have HO0 := n0_
     have BK386 := n1_
     have HK := n2_
     have HB := n3_
     clear n0_ n1_ n2_ n3_
     have p388 : 0 ≤ ((ji4) : Int) := of_decide_eq_true (by assumption)
     have q388 : (ji4) < (l0.length : Int) := of_decide_eq_true (by assumption)
     obtain ⟨ad388, e388, hx388_0, hx388_1⟩ := at_T44 (Kd.R_reads' HO0.out).2.2 (ji4) p388 q388
     obtain rfl : ad387 = ad388 := (by injection e388)
     replace p388 := eq_true p388
     replace q388 := eq_true q388
     have p9 : 0 ≤ ((ji4) : Int) := of_decide_eq_true (by assumption)
     have q9 : ((ji4) : Int) < ((l0.length : Int) : Int) := of_decide_eq_true (by assumption)
     obtain ⟨go9, co9, eo9, gb9, gl9, cl9, HG9⟩ := Kd.R_form HO0.out (by omega)
     (first | cases eo9 | (injection eo9 with ea_ en_ ec_; (first | subst ea_ | (injection ea_ with ea_; subst ea_)); subst ec_; clear en_))
     have GB9 := Aside0.mk gb9
     have GG9 := Aside0.mk HG9
     clear gb9 gl9 HG9
     have HMgo9 := Aside0.mk (show (P0_ go9 ∨ w.heap.size ≤ go9) from (HO0.out.1 _ rfl).1)
     (first | simp only [add_plain] at hx387_0 | skip)
     (first | simp only [add_plain] at hx387_1 | skip)
     (first | simp only [add_plain] at hx388_0 | skip)
     (first | simp only [add_plain] at hx388_1 | skip)
     obtain ⟨ce9, hcl9, hM9, hcc9, hfr9⟩ := Kd.R_elem HO0.out z44 ((ji4) : Int) p9 q9
     obtain rfl := k44_openM hM9
     have hx9_0 : World.cell? _ ⟨go9, ((ji4) : Int).toNat * 2, none⟩ = some (.int .i64 ((rd_T44 l0 (ji4)).f0)) := hcc9 0 _ rfl
     have hx9_1 : World.cell? _ ⟨go9, ((ji4) : Int).toNat * 2 + 1, none⟩ = some (.int .i64 ((rd_T44 l0 (ji4)).f1)) := hcc9 1 _ rfl
     have hf9_0 : World.frozen? _ ⟨go9, ((ji4) : Int).toNat * 2, none⟩ = false := hfr9 0
     have hf9_1 : World.frozen? _ ⟨go9, ((ji4) : Int).toNat * 2 + 1, none⟩ = false := hfr9 1
     clear hcl9 hcc9 hfr9 hM9
     replace p9 := eq_true p9
     replace q9 := eq_true q9
     obtain ⟨ce14, hcl14, hM14, hcc14, hfr14⟩ := Kd.R_elem HO0.out z44 ((ji4) : Int) (of_decide_eq_true (by assumption)) (by have h_ : ((ji4) : Int) < ((l0.length : Int) : Int) := of_decide_eq_true (by assumption); first | exact h_ | (have e_ := (Kd.R_reads' HO0.out).1; omega) | simpa using h_)
     obtain rfl := k44_openM hM14
     have HP14 := (Kd.R_seg HO0.out ((ji4) : Int) (of_decide_eq_true (by assumption)) (by have h_ : ((ji4) : Int) < ((l0.length : Int) : Int) := of_decide_eq_true (by assumption); first | exact h_ | (have e_ := (Kd.R_reads' HO0.out).1; omega) | simpa using h_) (seg := [.int .i64 ji8]) (j := 1) hcl14 hcc14 (show 2 ≤ 2 from by decide) (x' := (⟨(rd_T44 l0 (ji4)).f0, ji8⟩ : S44)) (k44_mkM _ _ _ (⟨(rd_T44 l0 (ji4)).f0, ji8⟩ : S44) ) (fun _ hk => hk)).1
     rw [← Ny389.out] at HP14
     have HQ14 := Aside0.mk HP14
     clear hcl14 hcc14 hfr14 hM14 HP14
     refine start_ (n := 13) (S := fun w' => w'.cell? ⟨gb386, 0, none⟩ = some (.int .i64 a1_0) ∧ w'.cell? ⟨gb386, 1, none⟩ = some (.int .i64 a1_1) ∧ w'.cell? ⟨go9, ((ji4)).toNat * 2, none⟩ = some (.int .i64 ((rd_T44 l0 (ji4)).f0)) ∧ w'.cell? ⟨go9, ((ji4)).toNat * 2 + 1, none⟩ = some (.int .i64 ((rd_T44 l0 (ji4)).f1))) (ds := [12]) #[false, false, false, false, false, false, false, false, false, false, false, false, false] (by kernel_rfl) rfl rfl ⟨(blk_cell BK386.out 0).trans rfl, (blk_cell BK386.out 1).trans rfl, hx388_0, hx388_1⟩ (fun hHeld => ?_); refine with_tabW span_add.tab3 span_add.bits3 (fun HT_ HW_ => ?_)
     generalize w12.drew = w13 at HO0 BK386 HK HB GG9 HQ14 hf9_0 hf9_1 hx387_0 hx387_1 hx388_0 hx388_1 hx9_0 hx9_1 hHeld ⊢
     refine pure_ (i := 0) (N := some 21) (v := ?_) (a' := ?_) (bm 1 13) rfl rfl (any_of HT_.out (by kernel_rfl)) (fun _ _ _ h => h) (Or.inl ⟨by rfl, ?_⟩) ?_ ?_
     rotate_left
     ·intro w'
      go_simp
      with_reducible rfl
     rotate_left
     ·simp only [Act.put, sA, sB, sC, i64_w, i32_w]
      rfl
     refine pure_ (i := 1) (N := some 22) (v := ?_) (a' := ?_) (bm 3 13) rfl rfl (any_of HT_.out (by kernel_rfl)) (fun _ _ _ h => h) (Or.inl ⟨by rfl, ?_⟩) ?_ ?_
     rotate_left
     ·intro w'
      go_simp
      with_reducible rfl
     rotate_left
     ·simp only [Act.put, sA, sB, sC, i64_w, i32_w]
      rfl
     refine pure_ (i := 2) (N := some 23) (v := ?_) (a' := ?_) (bm 7 13) rfl rfl (any_of HT_.out (by kernel_rfl)) (fun _ _ _ h => h) (Or.inl ⟨by rfl, ?_⟩) ?_ ?_
     rotate_left
     ·intro w'
      go_simp
      with_reducible rfl
     rotate_left
     ·simp only [Act.put, sA, sB, sC, i64_w, i32_w]
      rfl
     refine pure_ (i := 3) (N := some 24) (v := ?_) (a' := ?_) (bm 15 13) rfl rfl (any_of HT_.out (by kernel_rfl)) (fun _ _ _ h => h) (Or.inl ⟨by rfl, ?_⟩) ?_ ?_
     rotate_left
     ·intro w'
      go_simp
      with_reducible rfl
     rotate_left
     ·simp only [Act.put, sA, sB, sC, i64_w, i32_w]
      rfl
     refine pure_ (i := 4) (N := some 25) (v := ?_) (a' := ?_) (bm 31 13) rfl rfl (any_of HT_.out (by kernel_rfl)) (fun _ _ _ h => h) (Or.inl ⟨by rfl, ?_⟩) ?_ ?_
     rotate_left
     ·intro w'
      go_simp
      with_reducible rfl
     rotate_left
     ·simp only [Act.put, sA, sB, sC, i64_w, i32_w]
      rfl
     refine pure_ (i := 5) (N := some 26) (v := ?_) (a' := ?_) (bm 63 13) rfl rfl (any_of HT_.out (by kernel_rfl)) (fun _ _ _ h => h) (Or.inl ⟨by rfl, ?_⟩) ?_ ?_
     rotate_left
     ·intro w'
      go_simp
      with_reducible rfl
     rotate_left
     ·simp only [Act.put, sA, sB, sC, i64_w, i32_w]
      rfl
     refine pure_ (i := 7) (N := some 28) (v := ?_) (a' := ?_) (bm 191 13) rfl rfl (any_of HT_.out (by kernel_rfl)) (fun _ _ _ h => h) (Or.inl ⟨by rfl, ?_⟩) ?_ ?_
     rotate_left
     ·intro w'
      go_simp
      with_reducible rfl
     rotate_left
     ·simp only [Act.put, sA, sB, sC, i64_w, i32_w]
      rfl
     refine take_ (i := 6) (N := some 27) (v := ?_) (a' := ?_) (bm 255 13) rfl rfl (take_ofW HT_.out HW_.out (by kernel_rfl)) (fun _ _ _ h => h) (Or.inl ⟨by rfl, ?_⟩) hHeld ?_ ?_
     rotate_left
     ·rintro w' ⟨s0, s1, s2, s3⟩
      go_simp
      with_reducible rfl
     rotate_left
     ·simp only [Act.put, sA, sB, sC, i64_w, i32_w]
      rfl
     refine take_ (i := 8) (N := some 29) (v := ?_) (a' := ?_) (bm 511 13) rfl rfl (take_ofW HT_.out HW_.out (by kernel_rfl)) (fun _ _ _ h => h) (Or.inl ⟨by rfl, ?_⟩) hHeld ?_ ?_
     rotate_left
     ·rintro w' ⟨s0, s1, s2, s3⟩
      go_simp
      with_reducible rfl
     rotate_left
     ·simp only [Act.put, sA, sB, sC, i64_w, i32_w]
      rfl
     refine pure_ (i := 9) (N := some 30) (v := ?_) (a' := ?_) (bm 1023 13) rfl rfl (any_of HT_.out (by kernel_rfl)) (fun _ _ _ h => h) (Or.inl ⟨by rfl, ?_⟩) ?_ ?_
     rotate_left
     ·intro w'
      go_simp
      with_reducible rfl
     rotate_left
     ·simp only [Act.put, sA, sB, sC, i64_w, i32_w]
      rfl
     refine pure_ (i := 10) (N := some 31) (v := ?_) (a' := ?_) (bm 2047 13) rfl rfl (any_of HT_.out (by kernel_rfl)) (fun _ _ _ h => h) (Or.inl ⟨by rfl, ?_⟩) ?_ ?_
     rotate_left
     ·intro w'
      go_simp
      with_reducible rfl
     rotate_left
     ·simp only [Act.put, sA, sB, sC, i64_w, i32_w]
      rfl
     refine pure_ (i := 11) (N := some 32) (v := ?_) (a' := ?_) (bm 4095 13) rfl rfl (any_of HT_.out (by kernel_rfl)) (fun _ _ _ h => h) (Or.inl ⟨by rfl, ?_⟩) ?_ ?_
     rotate_left
     ·intro w'
      go_simp
      with_reducible rfl
     rotate_left
     ·simp only [Act.put, sA, sB, sC, i64_w, i32_w]
      rfl
     refine last_ (i := 12) (N := none) (bm 8191 13) rfl rfl (one_of HT_.out (by kernel_rfl)) (by decide) (fun K hK => ?_)
     refine skip_ (w1 := ?_) (by rfl) rfl ?_ ?_
     rotate_left
     ·go_simp
      rfl
     refine hK.out _ _ ?_
     clear hK K
     refine done_ (done_of HT_.out (by kernel_rfl)) ?_
     try go_wp2
     go_ret
     exact ⟨_, by first | rfl | (simp [errW_none, errW_some] <;> rfl) | (simp only [← hji4, ← hji8]; first | rfl | (simp [errW_none, errW_some] <;> rfl)) | (simp [*, errW_none, errW_some] <;> rfl), by (with_reducible repeat (first | apply Kd.R_alloc | apply Kd.R_drewN | apply Kd.R_drew)); exact Kd.R_mono HQ14.out (fun _ hk => hk.1), by repeat (first | (with_reducible first | exact HB.out | apply below_alloc | apply pw_below_drewN | apply below_drew1 | refine below_set ?_ GB9.out | refine below_set ?_ GE386.out) | exact HB.out), by repeat (first | (with_reducible first | exact HK.out | apply Kept.alloc | apply Kept.drewN | apply Kept.drew | refine Kept.setCell ?_ HMgo9.out _ | refine Kept.setCell ?_ (.inr GW386.out) _) | exact HK.out)⟩
    ·rw [if_neg c7] at H
     have c7b0 : decide (a1_0 ≤ ((rd_T44 l0 (ji4)).f1)) = false := decide_eq_false c7
     clear c7
     by_cases c15 : l0.length < 8796093022208
     ·rw [if_pos c15] at H
      have LMc15 := Aside0.mk c15
      clear c15
      obtain ⟨y390, hy390⟩ : ∃ y_ : List (S44), y_ = (l0 ++ [(⟨a1_0, a1_1⟩ : S44)]) := ⟨_, rfl⟩
      replace H : (some y390) = some r := by first | (rw [hy390]; with_reducible exact H) | (have H2_ := (Option.bind_some _ _).symm.trans H; rw [hy390]; with_reducible exact H2_) | (have H2_ := (Option.bind_some _ _).symm.trans H; with_reducible exact H2_) | with_reducible exact H | (rw [hy390]; exact H) | exact H
      have Ny390 := Aside0.mk hy390
      clear hy390
      obtain rfl := Option.some.inj H
      go_enter Try.func60, Try.ntmps60
      try go_wp2_with (first | ((with_reducible refine gate_dst (N := 3) rfl ?_); refine box_event ?hg (N := 3) ?hd (cs := #[.int .i64 a1_0, .int .i64 a1_1]) (t := 44) ?hr ?_; (case hd => rfl); (case hg => rfl); (case hr => first | (go_simp; done) | (go_simp; rfl)); intro gb386 hg w16 hbox hb; have n0_ := Aside0.mk (Kd.R_below (Kd.R_elderB (by (with_reducible repeat (first | apply Kd.R_alloc | apply Kd.R_drewN | apply Kd.R_drew)); exact HO0.out) gb386 (Nat.le_of_eq hg.symm)) hb); have n1_ := Aside0.mk (Kept.below (S := (fun k_ => P0_ k_)) (by repeat (first | (with_reducible first | exact HK.out | apply Kept.alloc | apply Kept.drewN | apply Kept.drew) | exact HK.out)) hb); have n2_ := Aside0.mk (below_step (by with_reducible repeat first | exact HB.out | apply below_alloc | apply pw_below_drewN | apply below_drew1) hb); have n3_ := Aside0.mk (hbox); have n4_ := Aside0.mk ((by rw [hg]; exact (by first | exact HK.out.1 | exact (show Kept w _ (fun k_ => P0_ k_) from by repeat (first | (with_reducible first | exact HK.out | apply Kept.alloc | apply Kept.drewN | apply Kept.drew) | exact HK.out)).1) : w.heap.size ≤ gb386)); have n5_ := Aside0.mk ((by rw [hg]; exact (below_size (by with_reducible repeat first | exact HB.out | apply below_alloc | apply pw_below_drewN | apply below_drew1)) : w0.heap.size ≤ gb386)); clear HO0; clear HK; clear HB; have HO0 := n0_; have HK := n1_; have HB := n2_; have BK386 := n3_; have GW386 := n4_; have GE386 := n5_; clear n0_ n1_ n2_ n3_ n4_ n5_; clear hb hbox hg; obtain ⟨Ao17, co17, eo17⟩ := Kd.R_slice HO0.out; subst eo17))
      have n0_ := Aside0.mk (Kd.R_drew HO0.out)
      have n1_ := Aside0.mk (blk_drew BK386.out)
      have n2_ := Aside0.mk (Kept.drew HK.out)
      have n3_ := Aside0.mk (below_drew1 HB.out)
      clear HO0
      clear BK386
      clear HK
      clear HB
      have HO0 := n0_
      have BK386 := n1_
      have HK := n2_
      have HB := n3_
      clear n0_ n1_ n2_ n3_
      have p387 : 0 ≤ ((ji4) : Int) := of_decide_eq_true (by assumption)
      have q387 : (ji4) < (l0.length : Int) := of_decide_eq_true (by assumption)
      obtain ⟨ad387, e387, hx387_0, hx387_1⟩ := at_T44 (Kd.R_reads' HO0.out).2.2 (ji4) p387 q387
      cases e387
      replace p387 := eq_true p387
      replace q387 := eq_true q387
      refine start_ (n := 12) (S := fun w' => w'.cell? ⟨gb386, 0, none⟩ = some (.int .i64 a1_0) ∧ w'.cell? ⟨gb386, 1, none⟩ = some (.int .i64 a1_1) ∧ w'.cell? (ad387.add (((ji4)).toNat * 2)) = some (.int .i64 ((rd_T44 l0 (ji4)).f0)) ∧ w'.cell? ⟨(ad387.add (((ji4)).toNat * 2)).block, (ad387.add (((ji4)).toNat * 2)).off + 1, none⟩ = some (.int .i64 ((rd_T44 l0 (ji4)).f1))) (ds := []) #[false, false, false, false, false, false, false, false, false, false, false, false] (by kernel_rfl) rfl rfl ⟨(blk_cell BK386.out 0).trans rfl, (blk_cell BK386.out 1).trans rfl, hx387_0, hx387_1⟩ (fun hHeld => ?_); refine with_tabW span_add.tab2 span_add.bits2 (fun HT_ HW_ => ?_)
      generalize w16.drew = w18 at HO0 BK386 HK HB hx387_0 hx387_1 hHeld ⊢
      refine pure_ (i := 0) (N := some 9) (v := ?_) (a' := ?_) (bm 1 12) rfl rfl (any_of HT_.out (by kernel_rfl)) (fun _ _ _ h => h) (Or.inl ⟨by rfl, ?_⟩) ?_ ?_
      rotate_left
      ·intro w'
       go_simp
       with_reducible rfl
      rotate_left
      ·simp only [Act.put, sA, sB, sC, i64_w, i32_w]
       rfl
      refine pure_ (i := 1) (N := some 10) (v := ?_) (a' := ?_) (bm 3 12) rfl rfl (any_of HT_.out (by kernel_rfl)) (fun _ _ _ h => h) (Or.inl ⟨by rfl, ?_⟩) ?_ ?_
      rotate_left
      ·intro w'
       go_simp
       with_reducible rfl
      rotate_left
      ·simp only [Act.put, sA, sB, sC, i64_w, i32_w]
       rfl
      refine pure_ (i := 2) (N := some 11) (v := ?_) (a' := ?_) (bm 7 12) rfl rfl (any_of HT_.out (by kernel_rfl)) (fun _ _ _ h => h) (Or.inl ⟨by rfl, ?_⟩) ?_ ?_
      rotate_left
      ·intro w'
       go_simp
       with_reducible rfl
      rotate_left
      ·simp only [Act.put, sA, sB, sC, i64_w, i32_w]
       rfl
      refine pure_ (i := 3) (N := some 12) (v := ?_) (a' := ?_) (bm 15 12) rfl rfl (any_of HT_.out (by kernel_rfl)) (fun _ _ _ h => h) (Or.inl ⟨by rfl, ?_⟩) ?_ ?_
      rotate_left
      ·intro w'
       go_simp
       with_reducible rfl
      rotate_left
      ·simp only [Act.put, sA, sB, sC, i64_w, i32_w]
       rfl
      refine pure_ (i := 5) (N := some 14) (v := ?_) (a' := ?_) (bm 47 12) rfl rfl (any_of HT_.out (by kernel_rfl)) (fun _ _ _ h => h) (Or.inl ⟨by rfl, ?_⟩) ?_ ?_
      rotate_left
      ·intro w'
       go_simp
       with_reducible rfl
      rotate_left
      ·simp only [Act.put, sA, sB, sC, i64_w, i32_w]
       rfl
      refine pure_ (i := 6) (N := some 15) (v := ?_) (a' := ?_) (bm 111 12) rfl rfl (any_of HT_.out (by kernel_rfl)) (fun _ _ _ h => h) (Or.inl ⟨by rfl, ?_⟩) ?_ ?_
      rotate_left
      ·intro w'
       go_simp
       with_reducible rfl
      rotate_left
      ·simp only [Act.put, sA, sB, sC, i64_w, i32_w]
       rfl
      refine pure_ (i := 7) (N := some 16) (v := ?_) (a' := ?_) (bm 239 12) rfl rfl (any_of HT_.out (by kernel_rfl)) (fun _ _ _ h => h) (Or.inl ⟨by rfl, ?_⟩) ?_ ?_
      rotate_left
      ·intro w'
       go_simp
       with_reducible rfl
      rotate_left
      ·simp only [Act.put, sA, sB, sC, i64_w, i32_w]
       rfl
      refine pure_ (i := 8) (N := some 17) (v := ?_) (a' := ?_) (bm 495 12) rfl rfl (any_of HT_.out (by kernel_rfl)) (fun _ _ _ h => h) (Or.inl ⟨by rfl, ?_⟩) ?_ ?_
      rotate_left
      ·intro w'
       go_simp
       with_reducible rfl
      rotate_left
      ·simp only [Act.put, sA, sB, sC, i64_w, i32_w]
       rfl
      refine take_ (i := 4) (N := some 13) (v := ?_) (a' := ?_) (bm 511 12) rfl rfl (take_ofW HT_.out HW_.out (by kernel_rfl)) (fun _ _ _ h => h) (Or.inl ⟨by rfl, ?_⟩) hHeld ?_ ?_
      rotate_left
      ·rintro w' ⟨s0, s1, s2, s3⟩
       go_simp
       with_reducible rfl
      rotate_left
      ·simp only [Act.put, sA, sB, sC, i64_w, i32_w]
       rfl
      refine take_ (i := 9) (N := some 18) (v := ?_) (a' := ?_) (bm 1023 12) rfl rfl (take_ofW HT_.out HW_.out (by kernel_rfl)) (fun _ _ _ h => h) (Or.inl ⟨by rfl, ?_⟩) hHeld ?_ ?_
      rotate_left
      ·rintro w' ⟨s0, s1, s2, s3⟩
       go_simp
       with_reducible rfl
      rotate_left
      ·simp only [Act.put, sA, sB, sC, i64_w, i32_w]
       rfl
      refine pure_ (i := 10) (N := some 19) (v := ?_) (a' := ?_) (bm 2047 12) rfl rfl (any_of HT_.out (by kernel_rfl)) (fun _ _ _ h => h) (Or.inl ⟨by rfl, ?_⟩) ?_ ?_
      rotate_left
      ·intro w'
       go_simp
       with_reducible rfl
      rotate_left
      ·simp only [Act.put, sA, sB, sC, i64_w, i32_w]
       rfl
      refine pure_ (i := 11) (N := some 20) (v := ?_) (a' := ?_) (bm 4095 12) rfl rfl (any_of HT_.out (by kernel_rfl)) (fun _ _ _ h => h) (Or.inl ⟨by rfl, ?_⟩) ?_ ?_
      rotate_left
      ·intro w'
       go_simp
       with_reducible rfl
      rotate_left
      ·simp only [Act.put, sA, sB, sC, i64_w, i32_w]
       rfl
      refine done_ (done_of HT_.out (by kernel_rfl)) ?_
      have hcz19_0 : w18.cell? ⟨gb386, 0, none⟩ = some (.int .i64 a1_0) := (blk_cell BK386.out 0).trans rfl
      have hcz19_1 : w18.cell? ⟨gb386, 1, none⟩ = some (.int .i64 a1_1) := (blk_cell BK386.out 1).trans rfl
      have hfz19_0 := blk_frozen BK386.out 0
      have hfz19_1 := blk_frozen BK386.out 1
      try go_wp2_with (first | ((with_reducible refine gate_builtin (b := .append) (xs := #[.tmp 34, .tmp 36]) rfl ?_); at_builtin; refine Kd.R_append k44 (w0 := w0) w0.heap.size rfl (.tmp 34) (.tmp 36) 40 44 (.agg #[(.int .i64 0), (.int .i64 0)]) 16 rfl Try.underlying40 info44 rfl (by decide) (by omega) (.slice (some ad387) l0.length co17) l0 (⟨a1_0, a1_1⟩ : S44) [.int .i64 a1_0, .int .i64 a1_1] (fun k_ => (P0_ k_ ∨ w.heap.size ≤ k_) ∧ k_ ≠ gb386) (fun _ => False) rfl rfl ?aP (fun _ hk => hk.elim) ?aF ?aO ?aB ?aS ?aL ?_; (case aP => exact k44_mkM _ _ _ (⟨a1_0, a1_1⟩ : S44)); (case aB => exact (by repeat (first | (with_reducible first | exact HB.out | apply below_alloc | apply pw_below_drewN | apply below_drew1 | refine below_set ?_ GE386.out) | exact HB.out))); (case aF => exact (fun k_ hk => ⟨(.inr (Nat.le_trans (by first | exact HK.out.1 | exact (show Kept w _ (fun k_ => P0_ k_) from by repeat (first | (with_reducible first | exact HK.out | apply Kept.alloc | apply Kept.drewN | apply Kept.drew | refine Kept.setCell ?_ (.inr GW386.out) _) | exact HK.out)).1) hk)), Kd.freshB (g := gb386) (o := .cells #[.int .i64 a1_0, .int .i64 a1_1] 44 (0, 0)) (by (with_reducible repeat (first | refine blk_drewN ?_ _ | refine blk_drew ?_ | refine blk_alloc ?_ _)); exact BK386.out) k_ hk⟩)); (case aO => exact (by (with_reducible repeat (first | apply Kd.R_alloc | apply Kd.R_drewN | apply Kd.R_drew)); exact HO0.out)); (case aS => exact (below_size (by repeat (first | (with_reducible first | exact HB.out | apply below_alloc | apply pw_below_drewN | apply below_drew1 | refine below_set ?_ GE386.out) | exact HB.out)))); (case aL => have := LMc15.out; omega); intro v391 w20 ho hb hg hat; rw [← Ny390.out] at ho; have n0_ := Aside0.mk (blk_grown (g := gb386) (o := .cells #[.int .i64 a1_0, .int .i64 a1_1] 44 (0, 0)) (by (with_reducible repeat (first | refine blk_drewN ?_ _ | refine blk_drew ?_ | refine blk_alloc ?_ _)); exact BK386.out) hg (Kd.R_away HO0.out (fun _ hk => hk.2))); have n1_ := Aside0.mk (hb); have n2_ := Aside0.mk (Kept.of_grown (S := (fun k_ => P0_ k_)) hg (by repeat (first | (with_reducible first | exact HK.out | apply Kept.alloc | apply Kept.drewN | apply Kept.drew | refine Kept.setCell ?_ (.inr GW386.out) _) | exact HK.out)) (fun k_ e_ => (HO0.out.1 k_ e_).1)); have n3_ := Aside0.mk (ho); clear BK386; clear HB; clear HK; clear HO0; have BK386 := n0_; have HB := n1_; have HK := n2_; have HO392 := n3_; clear n0_ n1_ n2_ n3_; clear ho hb hg hat))
      go_ret
      exact ⟨_, by first | rfl | (simp [errW_none, errW_some] <;> rfl) | (simp only [← hji4]; first | rfl | (simp [errW_none, errW_some] <;> rfl)) | (simp [*, errW_none, errW_some] <;> rfl), by (with_reducible repeat (first | apply Kd.R_alloc | apply Kd.R_drewN | apply Kd.R_drew)); exact Kd.R_mono HO392.out (fun _ hk => hk.1), by repeat (first | (with_reducible first | exact HB.out | apply below_alloc | apply pw_below_drewN | apply below_drew1 | refine below_set ?_ GE386.out) | exact HB.out), by repeat (first | (with_reducible first | exact HK.out | apply Kept.alloc | apply Kept.drewN | apply Kept.drew | refine Kept.setCell ?_ (.inr GW386.out) _) | exact HK.out)⟩
     ·rw [if_neg c15] at H
      exact absurd H (by simp)
   ·rw [if_neg c6] at H
    exact absurd H (by simp)
  ·rw [if_neg c5] at H
   exact absurd H (by simp)
 ·rw [if_neg c3] at H
  have c3b0 : decide (0 ≤ (wrap64 ((l0.length : Int) - 1))) = false := decide_eq_false c3
  clear c3
  by_cases c21 : l0.length < 8796093022208
  ·rw [if_pos c21] at H
   have LMc21 := Aside0.mk c21
   clear c21
   obtain ⟨y393, hy393⟩ : ∃ y_ : List (S44), y_ = (l0 ++ [(⟨a1_0, a1_1⟩ : S44)]) := ⟨_, rfl⟩
   replace H : (some y393) = some r := by first | (rw [hy393]; with_reducible exact H) | (have H2_ := (Option.bind_some _ _).symm.trans H; rw [hy393]; with_reducible exact H2_) | (have H2_ := (Option.bind_some _ _).symm.trans H; with_reducible exact H2_) | with_reducible exact H | (rw [hy393]; exact H) | exact H
   have Ny393 := Aside0.mk hy393
   clear hy393
   obtain rfl := Option.some.inj H
   go_enter Try.func60, Try.ntmps60
   try go_wp2_with (first | ((with_reducible refine gate_dst (N := 3) rfl ?_); refine box_event ?hg (N := 3) ?hd (cs := #[.int .i64 a1_0, .int .i64 a1_1]) (t := 44) ?hr ?_; (case hd => rfl); (case hg => rfl); (case hr => first | (go_simp; done) | (go_simp; rfl)); intro gb386 hg w22 hbox hb; have n0_ := Aside0.mk (Kd.R_below (Kd.R_elderB (by (with_reducible repeat (first | apply Kd.R_alloc | apply Kd.R_drewN | apply Kd.R_drew)); exact HO0.out) gb386 (Nat.le_of_eq hg.symm)) hb); have n1_ := Aside0.mk (Kept.below (S := (fun k_ => P0_ k_)) (by repeat (first | (with_reducible first | exact HK.out | apply Kept.alloc | apply Kept.drewN | apply Kept.drew) | exact HK.out)) hb); have n2_ := Aside0.mk (below_step (by with_reducible repeat first | exact HB.out | apply below_alloc | apply pw_below_drewN | apply below_drew1) hb); have n3_ := Aside0.mk (hbox); have n4_ := Aside0.mk ((by rw [hg]; exact (by first | exact HK.out.1 | exact (show Kept w _ (fun k_ => P0_ k_) from by repeat (first | (with_reducible first | exact HK.out | apply Kept.alloc | apply Kept.drewN | apply Kept.drew) | exact HK.out)).1) : w.heap.size ≤ gb386)); have n5_ := Aside0.mk ((by rw [hg]; exact (below_size (by with_reducible repeat first | exact HB.out | apply below_alloc | apply pw_below_drewN | apply below_drew1)) : w0.heap.size ≤ gb386)); clear HO0; clear HK; clear HB; have HO0 := n0_; have HK := n1_; have HB := n2_; have BK386 := n3_; have GW386 := n4_; have GE386 := n5_; clear n0_ n1_ n2_ n3_ n4_ n5_; clear hb hbox hg; obtain ⟨Ao23, co23, eo23⟩ := Kd.R_slice HO0.out; subst eo23))
   have n0_ := Aside0.mk (Kd.R_drew HO0.out)
   have n1_ := Aside0.mk (blk_drew BK386.out)
   have n2_ := Aside0.mk (Kept.drew HK.out)
   have n3_ := Aside0.mk (below_drew1 HB.out)
   clear HO0
   clear BK386
   clear HK
   clear HB
   have HO0 := n0_
   have BK386 := n1_
   have HK := n2_
   have HB := n3_
   clear n0_ n1_ n2_ n3_
   refine start_ (n := 12) (S := fun w' => True) (ds := []) #[false, false, false, false, false, false, false, false, false, false, false, false] (by kernel_rfl) rfl rfl trivial (fun hHeld => ?_); refine with_tabW span_add.tab2 span_add.bits2 (fun HT_ HW_ => ?_)
   generalize w22.drew = w24 at HO0 BK386 HK HB hHeld ⊢
   refine pure_ (i := 0) (N := some 9) (v := ?_) (a' := ?_) (bm 1 12) rfl rfl (any_of HT_.out (by kernel_rfl)) (fun _ _ _ h => h) (Or.inl ⟨by rfl, ?_⟩) ?_ ?_
   rotate_left
   ·intro w'
    go_simp
    with_reducible rfl
   rotate_left
   ·simp only [Act.put, sA, sB, sC, i64_w, i32_w]
    rfl
   refine pure_ (i := 1) (N := some 10) (v := ?_) (a' := ?_) (bm 3 12) rfl rfl (any_of HT_.out (by kernel_rfl)) (fun _ _ _ h => h) (Or.inl ⟨by rfl, ?_⟩) ?_ ?_
   rotate_left
   ·intro w'
    go_simp
    with_reducible rfl
   rotate_left
   ·simp only [Act.put, sA, sB, sC, i64_w, i32_w]
    rfl
   refine pure_ (i := 2) (N := some 11) (v := ?_) (a' := ?_) (bm 7 12) rfl rfl (any_of HT_.out (by kernel_rfl)) (fun _ _ _ h => h) (Or.inl ⟨by rfl, ?_⟩) ?_ ?_
   rotate_left
   ·intro w'
    go_simp
    with_reducible rfl
   rotate_left
   ·simp only [Act.put, sA, sB, sC, i64_w, i32_w]
    rfl
   refine pure_ (i := 3) (N := some 12) (v := undef) (a' := ?_) (bm 15 12) rfl rfl (any_of HT_.out (by kernel_rfl)) (fun _ _ _ h => h) (Or.inr ⟨by rfl, rfl⟩) ?_ ?_
   rotate_left
   ·simp only [Act.put, sA, sB, sC, i64_w, i32_w]
    rfl
   refine pure_ (i := 4) (N := some 13) (v := undef) (a' := ?_) (bm 31 12) rfl rfl (any_of HT_.out (by kernel_rfl)) (fun _ _ _ h => h) (Or.inr ⟨by rfl, rfl⟩) ?_ ?_
   rotate_left
   ·simp only [Act.put, sA, sB, sC, i64_w, i32_w]
    rfl
   refine pure_ (i := 5) (N := some 14) (v := undef) (a' := ?_) (bm 63 12) rfl rfl (any_of HT_.out (by kernel_rfl)) (fun _ _ _ h => h) (Or.inr ⟨by rfl, rfl⟩) ?_ ?_
   rotate_left
   ·simp only [Act.put, sA, sB, sC, i64_w, i32_w]
    rfl
   refine pure_ (i := 6) (N := some 15) (v := undef) (a' := ?_) (bm 127 12) rfl rfl (any_of HT_.out (by kernel_rfl)) (fun _ _ _ h => h) (Or.inr ⟨by rfl, rfl⟩) ?_ ?_
   rotate_left
   ·simp only [Act.put, sA, sB, sC, i64_w, i32_w]
    rfl
   refine pure_ (i := 7) (N := some 16) (v := undef) (a' := ?_) (bm 255 12) rfl rfl (any_of HT_.out (by kernel_rfl)) (fun _ _ _ h => h) (Or.inr ⟨by rfl, rfl⟩) ?_ ?_
   rotate_left
   ·simp only [Act.put, sA, sB, sC, i64_w, i32_w]
    rfl
   refine pure_ (i := 8) (N := some 17) (v := undef) (a' := ?_) (bm 511 12) rfl rfl (any_of HT_.out (by kernel_rfl)) (fun _ _ _ h => h) (Or.inr ⟨by rfl, rfl⟩) ?_ ?_
   rotate_left
   ·simp only [Act.put, sA, sB, sC, i64_w, i32_w]
    rfl
   refine pure_ (i := 9) (N := some 18) (v := undef) (a' := ?_) (bm 1023 12) rfl rfl (any_of HT_.out (by kernel_rfl)) (fun _ _ _ h => h) (Or.inr ⟨by rfl, rfl⟩) ?_ ?_
   rotate_left
   ·simp only [Act.put, sA, sB, sC, i64_w, i32_w]
    rfl
   refine pure_ (i := 10) (N := some 19) (v := undef) (a' := ?_) (bm 2047 12) rfl rfl (any_of HT_.out (by kernel_rfl)) (fun _ _ _ h => h) (Or.inr ⟨by rfl, rfl⟩) ?_ ?_
   rotate_left
   ·simp only [Act.put, sA, sB, sC, i64_w, i32_w]
    rfl
   refine pure_ (i := 11) (N := some 20) (v := ?_) (a' := ?_) (bm 4095 12) rfl rfl (any_of HT_.out (by kernel_rfl)) (fun _ _ _ h => h) (Or.inl ⟨by rfl, ?_⟩) ?_ ?_
   rotate_left
   ·intro w'
    go_simp
    with_reducible rfl
   rotate_left
   ·simp only [Act.put, sA, sB, sC, i64_w, i32_w]
    rfl
   refine done_ (done_of HT_.out (by kernel_rfl)) ?_
   have hcz25_0 : w24.cell? ⟨gb386, 0, none⟩ = some (.int .i64 a1_0) := (blk_cell BK386.out 0).trans rfl
   have hcz25_1 : w24.cell? ⟨gb386, 1, none⟩ = some (.int .i64 a1_1) := (blk_cell BK386.out 1).trans rfl
   have hfz25_0 := blk_frozen BK386.out 0
   have hfz25_1 := blk_frozen BK386.out 1
   try go_wp2_with (first | ((with_reducible refine gate_builtin (b := .append) (xs := #[.tmp 34, .tmp 36]) rfl ?_); at_builtin; refine Kd.R_append k44 (w0 := w0) w0.heap.size rfl (.tmp 34) (.tmp 36) 40 44 (.agg #[(.int .i64 0), (.int .i64 0)]) 16 rfl Try.underlying40 info44 rfl (by decide) (by omega) (.slice Ao23 l0.length co23) l0 (⟨a1_0, a1_1⟩ : S44) [.int .i64 a1_0, .int .i64 a1_1] (fun k_ => (P0_ k_ ∨ w.heap.size ≤ k_) ∧ k_ ≠ gb386) (fun _ => False) rfl rfl ?aP (fun _ hk => hk.elim) ?aF ?aO ?aB ?aS ?aL ?_; (case aP => exact k44_mkM _ _ _ (⟨a1_0, a1_1⟩ : S44)); (case aB => exact (by repeat (first | (with_reducible first | exact HB.out | apply below_alloc | apply pw_below_drewN | apply below_drew1 | refine below_set ?_ GE386.out) | exact HB.out))); (case aF => exact (fun k_ hk => ⟨(.inr (Nat.le_trans (by first | exact HK.out.1 | exact (show Kept w _ (fun k_ => P0_ k_) from by repeat (first | (with_reducible first | exact HK.out | apply Kept.alloc | apply Kept.drewN | apply Kept.drew | refine Kept.setCell ?_ (.inr GW386.out) _) | exact HK.out)).1) hk)), Kd.freshB (g := gb386) (o := .cells #[.int .i64 a1_0, .int .i64 a1_1] 44 (0, 0)) (by (with_reducible repeat (first | refine blk_drewN ?_ _ | refine blk_drew ?_ | refine blk_alloc ?_ _)); exact BK386.out) k_ hk⟩)); (case aO => exact (by (with_reducible repeat (first | apply Kd.R_alloc | apply Kd.R_drewN | apply Kd.R_drew)); exact HO0.out)); (case aS => exact (below_size (by repeat (first | (with_reducible first | exact HB.out | apply below_alloc | apply pw_below_drewN | apply below_drew1 | refine below_set ?_ GE386.out) | exact HB.out)))); (case aL => have := LMc21.out; omega); intro v394 w26 ho hb hg hat; rw [← Ny393.out] at ho; have n0_ := Aside0.mk (blk_grown (g := gb386) (o := .cells #[.int .i64 a1_0, .int .i64 a1_1] 44 (0, 0)) (by (with_reducible repeat (first | refine blk_drewN ?_ _ | refine blk_drew ?_ | refine blk_alloc ?_ _)); exact BK386.out) hg (Kd.R_away HO0.out (fun _ hk => hk.2))); have n1_ := Aside0.mk (hb); have n2_ := Aside0.mk (Kept.of_grown (S := (fun k_ => P0_ k_)) hg (by repeat (first | (with_reducible first | exact HK.out | apply Kept.alloc | apply Kept.drewN | apply Kept.drew | refine Kept.setCell ?_ (.inr GW386.out) _) | exact HK.out)) (fun k_ e_ => (HO0.out.1 k_ e_).1)); have n3_ := Aside0.mk (ho); clear BK386; clear HB; clear HK; clear HO0; have BK386 := n0_; have HB := n1_; have HK := n2_; have HO395 := n3_; clear n0_ n1_ n2_ n3_; clear ho hb hg hat))
   go_ret
   exact ⟨_, by first | rfl | (simp [errW_none, errW_some] <;> rfl) | (simp [*, errW_none, errW_some] <;> rfl), by (with_reducible repeat (first | apply Kd.R_alloc | apply Kd.R_drewN | apply Kd.R_drew)); exact Kd.R_mono HO395.out (fun _ hk => hk.1), by repeat (first | (with_reducible first | exact HB.out | apply below_alloc | apply pw_below_drewN | apply below_drew1 | refine below_set ?_ GE386.out) | exact HB.out), by repeat (first | (with_reducible first | exact HK.out | apply Kept.alloc | apply Kept.drewN | apply Kept.drew | refine Kept.setCell ?_ (.inr GW386.out) _) | exact HK.out)⟩
  ·rw [if_neg c21] at H
   exact absurd H (by simp)
end Go.Proofs.Ytlcodfjlbhjkbaa.PDelta
end
section
namespace Go.Proofs.Ytlcodfjlbhjkbaa.PDelta.Sp
open Go.RowKit Go.Proofs.YtlcodfjlbhjkbaaW.PrintWords Go.Proofs.YtlcodfjlbhjkbaaW.PrintLast Go.Proofs.YtlcodfjlbhjkbaaW.PrintMore
attribute [local go_sem] max2_int min2_int max_two min_two max_three min_three max_four min_four
theorem minus1 (x y : Bool) (w : World) : Calls Try.prog 89 #[.bool x, .bool y] w fun e w' => e = .returned (.bool (x && !y)) ∧ w' = w := by
 cases x
 all_goals
  go_enter Try.func89, Try.ntmps89
  go_wp2
  go_ret
  exact ⟨rfl, rfl⟩
def next1 (a : List S44) (i : Int) : Option Int := if i < 2 * (a.length : Int) then span_end.f a i else some 2147483648
def next2 (b : List S44) (j n : Int) : Option Int := if j < 2 * (b.length : Int) then (span_end.f b j).bind fun e => some (mn n e) else some n
def step3 (W : Bool → Bool → Bool) (out : List S44) (at_ nx i j : Int) : Option (List S44) := if at_ < nx then (if W (i % 2 == 1) (j % 2 == 1) = true then span_add.f out at_ nx else some out) else some out
def skipF (l : List S44) (at_ : Int) : Nat → Int → Option Int
 | 0, _ => none
 | k + 1, i => if i < 2 * (l.length : Int) then (span_end.f l i).bind fun e => if e = at_ then skipF l at_ k (i + 1) else some i else some i
def mrgL (W : Bool → Bool → Bool) (a b : List S44) : Nat → List S44 → Int → Int → Int → Option (List S44)
 | 0, _, _, _, _ => none
 | k + 1, out, at_, i, j => if i < 2 * (a.length : Int) ∨ j < 2 * (b.length : Int) then
   (next1 a i).bind fun n1 => (next2 b j n1).bind fun nx => (step3 W out at_ nx i j).bind fun out' => (skipF a nx k i).bind fun i' => (skipF b nx k j).bind fun j' => mrgL W a b k out' nx i' j'
  else some out
theorem R_drawn {w0 w w' : World} {v : Value} {l : List S44} (h : Kd.R k44 44 w w0.heap.size (fun _ => True) v l) (hd : Drawn0 w w') : Kd.R k44 44 w' w0.heap.size (fun _ => True) v l := Kd.R_below h hd.below
theorem B_drawn {w0 w w' : World} (h : Below w0.heap.size w0 w) (hd : Drawn0 w w') : Below w0.heap.size w0 w' := below_step h hd.below
set_option maxRecDepth 100000 in
set_option maxHeartbeats 16000000 in
theorem merged_calls (g : Nat) (hent : ∀ (args : Array Value) (w : World), (callFunc g args).run Try.prog w = .ok (.enter g args) w) (W : Bool → Bool → Bool)
  (hcl : ∀ (x y : Bool) (w : World), Calls Try.prog g #[.bool x, .bool y] w fun e w' => e = .returned (.bool (W x y)) ∧ w' = w)
  (k : Nat) (A0 : Option Addr) (c0 : Nat) (a : List S44) (A1 : Option Addr) (c1 : Nat) (b : List S44) (r : List S44) (w : World)
  (hr0 : Kd.C k44 w A0 a.length a) (hc0 : a.length ≤ c0) (hr1 : Kd.C k44 w A1 b.length b) (hc1 : b.length ≤ c1) (hla : a.length ≤ 1099511627776) (hlb : b.length ≤ 1099511627776) (h : mrgL W a b k [] 0 0 0 = some r) :
  Calls Try.prog 129 #[.slice A0 a.length c0, .slice A1 b.length c1, .func (.func g) #[] #[]] w fun e w' => ∃ v0_ : Value, e = .returned (v0_) ∧ Kd.R k44 44 w' w.heap.size (fun _ => True) v0_ r ∧ Below w.heap.size w w' := by
 have hu44 := Try.underlying44
 have HR0 := Aside0.mk hr0
 have HC0 := Aside0.mk hc0
 have HR1 := Aside0.mk hr1
 have HC1 := Aside0.mk hc1
 have HCL := Aside0.mk hcl
 have H' := Aside0.mk h
 clear hr0 hc0 hr1 hc1 hcl h
 go_enter Try.func129, Try.ntmps129
 go_wp2
 go_loopg [7, 8, 9, 10] k (fun kq v7 v8 v9 v10 wr => ∃ (out : List S44) (at_ i j : Int), v8 = .int .i64 at_ ∧ v9 = .int .i64 i ∧ v10 = .int .i64 j ∧ 0 ≤ i ∧ i ≤ 2 * (a.length : Int) ∧ 0 ≤ j ∧ j ≤ 2 * (b.length : Int) ∧
  Aside0 (mrgL W a b kq out at_ i j = some r) ∧ Aside0 (Kd.R k44 44 wr w.heap.size (fun _ => True) v7 out) ∧ Aside0 (Below w.heap.size w wr))
 case atStart => exact ⟨[], 0, 0, 0, rfl, rfl, rfl, by omega, by omega, by omega, by omega, H', ⟨Kd.R_nil _ _ _ _ _⟩, ⟨Below.refl _ _⟩⟩
 case round =>
  clear H'
  obtain ⟨out, at_, i, j, rfl, rfl, rfl, i0, i1, j0, j1, HA, HO, HB⟩ := hrel
  cases gk with
  | zero => exact absurd HA.out (by simp [mrgL])
  | succ k1 =>
   have H := HA.out
   clear HA
   rw [mrgL] at H
   by_cases c3 : i < 2 * (a.length : Int) ∨ j < 2 * (b.length : Int)
   ·rw [if_pos c3] at H
    replace H := Option.bind_eq_some_iff.1 H
    obtain ⟨n1, hn1, H⟩ := H
    replace H := Option.bind_eq_some_iff.1 H
    obtain ⟨nx, hnx, H⟩ := H
    replace H := Option.bind_eq_some_iff.1 H
    obtain ⟨out', hout, H⟩ := H
    replace H := Option.bind_eq_some_iff.1 H
    obtain ⟨i', hi', H⟩ := H
    replace H := Option.bind_eq_some_iff.1 H
    obtain ⟨j', hj', H⟩ := H
    have HN1 := Aside0.mk hn1
    have HNX := Aside0.mk hnx
    have HOUT := Aside0.mk hout
    have HI := Aside0.mk hi'
    have HJ := Aside0.mk hj'
    have HM := Aside0.mk H
    clear hn1 hnx hout hi' hj' H
    have HC3 := Aside0.mk c3
    clear c3
    obtain ⟨A7, c7, hv7, hx⟩ := Kd.R_reads HO.out
    clear hx
    subst hv7
    have ways : decide (i < 2 * (a.length : Int)) = true ∨ (decide (i < 2 * (a.length : Int)) = false ∧ decide (j < 2 * (b.length : Int)) = true) := by
     by_cases ca : i < 2 * (a.length : Int)
     ·exact .inl (decide_eq_true ca)
     ·exact .inr ⟨decide_eq_false ca, decide_eq_true (HC3.out.resolve_left ca)⟩
    rcases ways with q0 | ⟨q0, q1⟩
    all_goals
     go_upto_region 4 with (fail)
     clear q0
     try clear q1
     obtain ⟨ta, hta⟩ : ∃ t : Bool, decide (i < 2 * (a.length : Int)) = t := ⟨_, rfl⟩
     go_upto_if 28 with (fail)
     go_cut [11] (fun v11 wc => v11 = .int .i64 n1 ∧ Aside0 (Drawn0 wr wc))
     case first =>
      cases ta with
      | true =>
       have ca := of_decide_eq_true hta
       have HF := Aside0.mk (show span_end.f a i = some n1 by have := HN1.out; rw [next1, if_pos ca] at this; exact this)
       clear ca
       go_wp2_with (go_at_call 159; (with_reducible refine (span_end.calls _ _ a i n1 _ (Kd.C_below HR0.out HB.out) HC0.out HF.out).mono ?_); rintro e w' ⟨rfl, hd⟩)
       have HD := Aside0.mk hd
       clear hd
       go_wp2
       go_meet
       case rel => exact ⟨rfl, HD⟩
      | false =>
       have ca := of_decide_eq_false hta
       have HF := Aside0.mk (show n1 = 2147483648 by have := HN1.out; rw [next1, if_neg ca] at this; exact (Option.some.inj this).symm)
       clear ca
       go_wp2
       go_meet
       case rel => exact ⟨by rw [HF.out], ⟨Drawn0.refl _⟩⟩
     case rest =>
      clear hta
      obtain ⟨rfl, HD⟩ := hcut
      have HB1 := Aside0.mk (B_drawn HB.out HD.out)
      have HO1 := Aside0.mk (R_drawn HO.out HD.out)
      clear HB HO HD
      obtain ⟨tb, htb⟩ : ∃ t : Bool, decide (j < 2 * (b.length : Int)) = t := ⟨_, rfl⟩
      go_upto_if 36 with (fail)
      go_cut [11] (fun v11 wd => v11 = .int .i64 nx ∧ Aside0 (Drawn0 wc wd))
      case first =>
       cases tb with
       | true =>
        have cb := of_decide_eq_true htb
        have hf := HNX.out
        rw [next2, if_pos cb] at hf
        replace hf := Option.bind_eq_some_iff.1 hf
        obtain ⟨e2, he2, hf⟩ := hf
        have HF := Aside0.mk he2
        have hnm : (if e2 < n1 then e2 else n1) = nx := by have := Option.some.inj hf; unfold mn at this; exact this
        clear cb hf he2
        go_wp2_with (go_at_call 159; (with_reducible refine (span_end.calls _ _ b j e2 _ (Kd.C_below HR1.out HB1.out) HC1.out HF.out).mono ?_); rintro e w' ⟨rfl, hd⟩)
        have HD := Aside0.mk hd
        clear hd
        go_wp2
        go_meet
        case rel => exact ⟨rfl, HD⟩
       | false =>
        have cb := of_decide_eq_false htb
        have HF := Aside0.mk (show nx = n1 by have := HNX.out; rw [next2, if_neg cb] at this; exact (Option.some.inj this).symm)
        clear cb
        go_wp2
        go_meet
        case rel => exact ⟨by rw [HF.out], ⟨Drawn0.refl _⟩⟩
      case rest =>
       clear htb
       obtain ⟨rfl, HD⟩ := hcut
       have HB2 := Aside0.mk (B_drawn HB1.out HD.out)
       have HO2 := Aside0.mk (R_drawn HO1.out HD.out)
       clear HB1 HO1 HD
       go_upto_region 9 with (fail)
       go_cut [54] (fun v54 we => ∃ t : Bool, v54 = .bool t ∧ Aside0 ((decide (at_ < nx) && W (i % 2 == 1) (j % 2 == 1)) = t) ∧ Aside0 (Drawn0 wc we))
       case first =>
        by_cases cn : at_ < nx
        ·have cn' : decide (at_ < nx) = true := decide_eq_true cn
         clear cn
         go_wp2_with (fail)
         refine (HCL.out _ _ _).mono ?_
         rintro e w' ⟨rfl, rfl⟩
         go_wp2
         go_meet
         case rel => exact ⟨_, rfl, ⟨by rw [cn']; rfl⟩, ⟨Drawn0.refl _⟩⟩
        ·have cn' : decide (at_ < nx) = false := decide_eq_false cn
         clear cn
         go_wp2
         go_meet
         case rel => exact ⟨false, rfl, ⟨by rw [cn']; rfl⟩, ⟨Drawn0.refl _⟩⟩
       case rest =>
        obtain ⟨t, rfl, HT, HD⟩ := hcut
        have HB4 := Aside0.mk (B_drawn HB2.out HD.out)
        have HO4 := Aside0.mk (R_drawn HO2.out HD.out)
        clear HB2 HO2 HD
        have HB2 := HB4
        have HO2 := HO4
        clear HB4 HO4
        go_upto_if 54 with (fail)
        go_cut [7] (fun v7 wf => Aside0 (Kd.R k44 44 wf w.heap.size (fun _ => True) v7 out') ∧ Aside0 (Below w.heap.size w wf))
        case first =>
         cases t with
         | false =>
          have HF := Aside0.mk (show out = out' by
           have h1 := HT.out
           have h2 := HOUT.out
           rw [step3] at h2
           by_cases cn : at_ < nx
           ·rw [decide_eq_true cn, Bool.true_and] at h1
            rw [if_pos cn, if_neg (by rw [h1]; decide)] at h2
            exact Option.some.inj h2
           ·rw [if_neg cn] at h2
            exact Option.some.inj h2)
          go_wp2
          go_meet
          case rel => exact ⟨⟨by rw [← HF.out]; exact HO2.out⟩, HB2⟩
         | true =>
          have HF := Aside0.mk (show span_add.f out at_ nx = some out' by
           have h1 := HT.out
           have h2 := HOUT.out
           rw [Bool.and_eq_true] at h1
           rw [step3, if_pos (of_decide_eq_true h1.1), if_pos h1.2] at h2
           exact h2)
          go_wp2_with (go_at_call 60; (refine (span_add.calls (fun _ => True) _ out at_ nx out' w _ HB2.out HO2.out HF.out).mono ?_); rintro e w' ⟨v0, rfl, hR, hB, hK⟩)
          have HO3 := Aside0.mk (Kd.R_mono hR (fun _ _ => trivial))
          have HB3 := Aside0.mk hB
          obtain ⟨A9, c9, hv9⟩ := Kd.R_slice hR
          subst hv9
          clear hR hB hK
          go_wp2
          go_meet
          case rel => exact ⟨HO3, HB3⟩
        case rest =>
         obtain ⟨HO3, HB3⟩ := hcut
         obtain ⟨A8, c8, hv8, hx⟩ := Kd.R_reads HO3.out
         clear hx
         subst hv8
         clear HO2 HB2 HT
         go_wp2
         go_loopg [9] k1 (fun kq v9 wr => ∃ q : Int, v9 = .int .i64 q ∧ 0 ≤ q ∧ q ≤ 2 * (a.length : Int) ∧ Aside0 (skipF a nx kq q = some i') ∧ Aside0 (Kd.R k44 44 wr w.heap.size (fun _ => True) (.slice A8 out'.length c8) out') ∧ Aside0 (Below w.heap.size w wr))
         case atStart => exact ⟨i, rfl, i0, i1, HI, HO3, HB3⟩
         case round =>
          clear HO3 HB3
          obtain ⟨q, rfl, q0, q1, HS, HO3, HB3⟩ := hrel
          cases gk with
          | zero => exact absurd HS.out (by simp [skipF])
          | succ k2 =>
           have hs := HS.out
           rw [skipF] at hs
           clear HS
           by_cases cq : q < 2 * (a.length : Int)
           ·rw [if_pos cq] at hs
            have cq' : decide (q < 2 * (a.length : Int)) = true := decide_eq_true cq
            replace hs := Option.bind_eq_some_iff.1 hs
            obtain ⟨e3, he3, hs⟩ := hs
            have HE := Aside0.mk he3
            clear he3
            by_cases ce : e3 = nx
            ·rw [if_pos ce] at hs
             have ce' : (e3 == nx) = true := beq_iff_eq.mpr ce
             have HS := Aside0.mk hs
             clear ce hs
             go_wp2_with (go_at_call 159; (with_reducible refine (span_end.calls _ _ a q e3 _ (Kd.C_below HR0.out HB3.out) HC0.out HE.out).mono ?_); rintro e w' ⟨rfl, hd⟩)
             have HB5 := Aside0.mk (B_drawn HB3.out hd)
             have HO5 := Aside0.mk (R_drawn HO3.out hd)
             clear hd
             go_wp2
             go_roundg k2
             case measure => omega
             case rel => exact ⟨q + 1, rfl, by omega, by omega, HS, HO5, HB5⟩
            ·rw [if_neg ce] at hs
             have ce' : (e3 == nx) = false := beq_eq_false_iff_ne.mpr ce
             have HS := Aside0.mk (Option.some.inj hs)
             clear ce hs
             go_wp2_with (go_at_call 159; (with_reducible refine (span_end.calls _ _ a q e3 _ (Kd.C_below HR0.out HB3.out) HC0.out HE.out).mono ?_); rintro e w' ⟨rfl, hd⟩)
             have HB5 := Aside0.mk (B_drawn HB3.out hd)
             have HO5 := Aside0.mk (R_drawn HO3.out hd)
             clear hd
             clear HB3 HO3
             have HB3 := HB5
             have HO3 := HO5
             clear HB5 HO5
             obtain rfl := HS.out
             go_wp2
             have hq0 := q0
             have hq1 := q1
             obtain ⟨q1_, hq⟩ : ∃ z : Int, z = q := ⟨_, rfl⟩
             subst hq
             clear q0 q1
             try clear cq
             try clear cq'
             try clear ce'
             go_loopg [10] k1 (fun kq v10 wr => ∃ q : Int, v10 = .int .i64 q ∧ 0 ≤ q ∧ q ≤ 2 * (b.length : Int) ∧ Aside0 (skipF b nx kq q = some j') ∧ Aside0 (Kd.R k44 44 wr w.heap.size (fun _ => True) (.slice A8 out'.length c8) out') ∧ Aside0 (Below w.heap.size w wr))
             case atStart => exact ⟨j, rfl, j0, j1, HJ, HO3, HB3⟩
             case round =>
              clear HO3 HB3
              obtain ⟨q, rfl, q0, q1, HS, HO3, HB3⟩ := hrel
              cases gk with
              | zero => exact absurd HS.out (by simp [skipF])
              | succ k2 =>
               have hs := HS.out
               rw [skipF] at hs
               clear HS
               by_cases cq : q < 2 * (b.length : Int)
               ·rw [if_pos cq] at hs
                have cq' : decide (q < 2 * (b.length : Int)) = true := decide_eq_true cq
                replace hs := Option.bind_eq_some_iff.1 hs
                obtain ⟨e3, he3, hs⟩ := hs
                have HE := Aside0.mk he3
                clear he3
                by_cases ce : e3 = nx
                ·rw [if_pos ce] at hs
                 have ce' : (e3 == nx) = true := beq_iff_eq.mpr ce
                 have HS := Aside0.mk hs
                 clear ce hs
                 go_wp2_with (go_at_call 159; (with_reducible refine (span_end.calls _ _ b q e3 _ (Kd.C_below HR1.out HB3.out) HC1.out HE.out).mono ?_); rintro e w' ⟨rfl, hd⟩)
                 have HB5 := Aside0.mk (B_drawn HB3.out hd)
                 have HO5 := Aside0.mk (R_drawn HO3.out hd)
                 clear hd
                 go_wp2
                 go_roundg k2
                 case measure => omega
                 case rel => exact ⟨q + 1, rfl, by omega, by omega, HS, HO5, HB5⟩
                ·rw [if_neg ce] at hs
                 have ce' : (e3 == nx) = false := beq_eq_false_iff_ne.mpr ce
                 have HS := Aside0.mk (Option.some.inj hs)
                 clear ce hs
                 go_wp2_with (go_at_call 159; (with_reducible refine (span_end.calls _ _ b q e3 _ (Kd.C_below HR1.out HB3.out) HC1.out HE.out).mono ?_); rintro e w' ⟨rfl, hd⟩)
                 have HB5 := Aside0.mk (B_drawn HB3.out hd)
                 have HO5 := Aside0.mk (R_drawn HO3.out hd)
                 clear hd
                 clear HB3 HO3
                 have HB3 := HB5
                 have HO3 := HO5
                 clear HB5 HO5
                 obtain rfl := HS.out
                 go_wp2
                 go_roundg k1
                 case measure => omega
                 case rel => exact ⟨out', nx, q1_, q, rfl, rfl, rfl, by omega, by omega, by omega, by omega, HM, HO3, HB3⟩
               ·rw [if_neg cq] at hs
                have cq' : decide (q < 2 * (b.length : Int)) = false := decide_eq_false cq
                have HS := Aside0.mk (Option.some.inj hs)
                clear hs
                obtain rfl := HS.out
                go_wp2
                go_roundg k1
                case measure => omega
                case rel => exact ⟨out', nx, q1_, q, rfl, rfl, rfl, by omega, by omega, by omega, by omega, HM, HO3, HB3⟩
           ·rw [if_neg cq] at hs
            have cq' : decide (q < 2 * (a.length : Int)) = false := decide_eq_false cq
            have HS := Aside0.mk (Option.some.inj hs)
            clear hs
            obtain rfl := HS.out
            go_wp2
            have hq0 := q0
            have hq1 := q1
            obtain ⟨q1_, hq⟩ : ∃ z : Int, z = q := ⟨_, rfl⟩
            subst hq
            clear q0 q1
            try clear cq
            try clear cq'
            try clear ce'
            go_loopg [10] k1 (fun kq v10 wr => ∃ q : Int, v10 = .int .i64 q ∧ 0 ≤ q ∧ q ≤ 2 * (b.length : Int) ∧ Aside0 (skipF b nx kq q = some j') ∧ Aside0 (Kd.R k44 44 wr w.heap.size (fun _ => True) (.slice A8 out'.length c8) out') ∧ Aside0 (Below w.heap.size w wr))
            case atStart => exact ⟨j, rfl, j0, j1, HJ, HO3, HB3⟩
            case round =>
             clear HO3 HB3
             obtain ⟨q, rfl, q0, q1, HS, HO3, HB3⟩ := hrel
             cases gk with
             | zero => exact absurd HS.out (by simp [skipF])
             | succ k2 =>
              have hs := HS.out
              rw [skipF] at hs
              clear HS
              by_cases cq : q < 2 * (b.length : Int)
              ·rw [if_pos cq] at hs
               have cq' : decide (q < 2 * (b.length : Int)) = true := decide_eq_true cq
               replace hs := Option.bind_eq_some_iff.1 hs
               obtain ⟨e3, he3, hs⟩ := hs
               have HE := Aside0.mk he3
               clear he3
               by_cases ce : e3 = nx
               ·rw [if_pos ce] at hs
                have ce' : (e3 == nx) = true := beq_iff_eq.mpr ce
                have HS := Aside0.mk hs
                clear ce hs
                go_wp2_with (go_at_call 159; (with_reducible refine (span_end.calls _ _ b q e3 _ (Kd.C_below HR1.out HB3.out) HC1.out HE.out).mono ?_); rintro e w' ⟨rfl, hd⟩)
                have HB5 := Aside0.mk (B_drawn HB3.out hd)
                have HO5 := Aside0.mk (R_drawn HO3.out hd)
                clear hd
                go_wp2
                go_roundg k2
                case measure => omega
                case rel => exact ⟨q + 1, rfl, by omega, by omega, HS, HO5, HB5⟩
               ·rw [if_neg ce] at hs
                have ce' : (e3 == nx) = false := beq_eq_false_iff_ne.mpr ce
                have HS := Aside0.mk (Option.some.inj hs)
                clear ce hs
                go_wp2_with (go_at_call 159; (with_reducible refine (span_end.calls _ _ b q e3 _ (Kd.C_below HR1.out HB3.out) HC1.out HE.out).mono ?_); rintro e w' ⟨rfl, hd⟩)
                have HB5 := Aside0.mk (B_drawn HB3.out hd)
                have HO5 := Aside0.mk (R_drawn HO3.out hd)
                clear hd
                clear HB3 HO3
                have HB3 := HB5
                have HO3 := HO5
                clear HB5 HO5
                obtain rfl := HS.out
                go_wp2
                go_roundg k1
                case measure => omega
                case rel => exact ⟨out', nx, q1_, q, rfl, rfl, rfl, by omega, by omega, by omega, by omega, HM, HO3, HB3⟩
              ·rw [if_neg cq] at hs
               have cq' : decide (q < 2 * (b.length : Int)) = false := decide_eq_false cq
               have HS := Aside0.mk (Option.some.inj hs)
               clear hs
               obtain rfl := HS.out
               go_wp2
               go_roundg k1
               case measure => omega
               case rel => exact ⟨out', nx, q1_, q, rfl, rfl, rfl, by omega, by omega, by omega, by omega, HM, HO3, HB3⟩
   ·have ca' : decide (i < 2 * (a.length : Int)) = false := decide_eq_false (by omega)
    have cb' : decide (j < 2 * (b.length : Int)) = false := decide_eq_false (by omega)
    rw [if_neg c3] at H
    have HF := Aside0.mk (Option.some.inj H)
    clear c3 H
    obtain ⟨A7, c7, hv7, hx⟩ := Kd.R_reads HO.out
    clear hx
    subst hv7
    go_wp2
    go_ret
    exact ⟨_, rfl, by rw [← HF.out]; exact HO.out, HB.out⟩
end Go.Proofs.Ytlcodfjlbhjkbaa.PDelta.Sp
end
section
namespace Go.Proofs.Ytlcodfjlbhjkbaa.PDelta.Sp
open Go.RowKit Go.Proofs.YtlcodfjlbhjkbaaW.PrintWords Go.Proofs.YtlcodfjlbhjkbaaW.PrintLast Go.Proofs.YtlcodfjlbhjkbaaW.PrintMore
theorem enters_any {g : Nat} {fn : Func} {c : Code} (hf : Try.prog.funcs[g]? = some fn) (hname : (fn.name == "runtime.NumGoroutine") = false) (hb : fn.body = some c) (args : Array Value) (w : World) :
  (callFunc g args).run Try.prog w = .ok (.enter g args) w := by
 have h1 : fn.name ≠ "runtime.NumGoroutine" := by simpa using hname
 simp [callFunc, hf, h1, hb, mark]
theorem skip_mono (l : List S44) (at_ : Int) : ∀ (k : Nat) (i : Int), LeO (skipF l at_ k i) (skipF l at_ (k + 1) i)
 | 0, i => fun r h => by cases h
 | k + 1, i => by
  rw [skipF, skipF]
  exact LeO.ite (LeO.bind (LeO.refl _) (fun e => LeO.ite (skip_mono l at_ k (i + 1)) (LeO.refl _))) (LeO.refl _)
theorem mrgL_mono (W : Bool → Bool → Bool) (a b : List S44) : ∀ (k : Nat) (out : List S44) (at_ i j : Int), LeO (mrgL W a b k out at_ i j) (mrgL W a b (k + 1) out at_ i j)
 | 0, out, at_, i, j => fun r h => by cases h
 | k + 1, out, at_, i, j => by
  rw [mrgL, mrgL]
  exact LeO.ite (LeO.bind (LeO.refl _) (fun n1 => LeO.bind (LeO.refl _) (fun nx => LeO.bind (LeO.refl _) (fun out' => LeO.bind (skip_mono a nx k i) (fun i' => LeO.bind (skip_mono b nx k j) (fun j' => mrgL_mono W a b k out' nx i' j')))))) (LeO.refl _)
def twoF (W : Bool → Bool → Bool) (k : Nat) (l0 l1 : List S44) : Option (List S44 × Int) :=
 (span_Check.f k l0).bind fun e => if e = 0 then (span_Check.f k l1).bind fun e' => if e' = 0 then (if l0.length ≤ 1099511627776 ∧ l1.length ≤ 1099511627776 then (mrgL W l0 l1 k [] 0 0 0).bind fun o => some (o, 0) else none) else some ([], e') else some ([], e)
theorem twoF_mono (W : Bool → Bool → Bool) (l0 l1 : List S44) (k : Nat) : LeO (twoF W k l0 l1) (twoF W (k + 1) l0 l1) :=
 LeO.bind (span_Check.mono l0 k) (fun e => LeO.ite (LeO.bind (span_Check.mono l1 k) (fun e' => LeO.ite (LeO.ite (LeO.bind (mrgL_mono W l0 l1 k _ _ _ _) (fun o => LeO.refl _)) (LeO.refl _)) (LeO.refl _))) (LeO.refl _))
set_option maxRecDepth 100000 in
set_option maxHeartbeats 4000000 in
theorem two_calls (g : Nat) (hent : ∀ (args : Array Value) (w : World), (callFunc g args).run Try.prog w = .ok (.enter g args) w) (W : Bool → Bool → Bool)
  (hcl : ∀ (x y : Bool) (w : World), Calls Try.prog g #[.bool x, .bool y] w fun e w' => e = .returned (.bool (W x y)) ∧ w' = w)
  (k : Nat) (A0 : Option Addr) (c0 : Nat) (l0 : List (S44)) (A1 : Option Addr) (c1 : Nat) (l1 : List (S44)) (r1 : List (S44)) (r2 : Int) (w : World) (hr0 : Kd.C k44 w A0 l0.length l0) (hc0 : l0.length ≤ c0) (hr1 : Kd.C k44 w A1 l1.length l1) (hc1 : l1.length ≤ c1) (h : twoF W k l0 l1 = some (r1, r2)) :
  Calls Try.prog 88 #[.slice A0 l0.length c0, .slice A1 l1.length c1, .func (.func g) #[] #[]] w fun e w' => ∃ v0_ : Value, e = .returned (.tuple #[v0_, .int .i64 r2]) ∧ Kd.R k44 44 w' w.heap.size (fun _ => True) v0_ r1 ∧ Below w.heap.size w w' := by
 have HR0 := Aside0.mk hr0
 have HC0 := Aside0.mk hc0
 have HR1 := Aside0.mk hr1
 have HC1 := Aside0.mk hc1
 have HCL := Aside0.mk hcl
 have HENT := Aside0.mk hent
 have HB := Aside0.mk (Below.refl w.heap.size w)
 clear hr0 hc0 hr1 hc1 hcl hent
 rw [twoF] at h
 replace h := Option.bind_eq_some_iff.1 h
 obtain ⟨e, he, h⟩ := h
 have HE := Aside0.mk he
 clear he
 by_cases c3 : e = 0
 ·rw [if_pos c3] at h
  have c3b : (e != 0) = false := bne_eq_false_iff_eq.mpr c3
  clear c3
  replace h := Option.bind_eq_some_iff.1 h
  obtain ⟨e', he', h⟩ := h
  have HE' := Aside0.mk he'
  clear he'
  by_cases c4 : e' = 0
  ·rw [if_pos c4] at h
   have c4b : (e' != 0) = false := bne_eq_false_iff_eq.mpr c4
   clear c4
   by_cases c5 : l0.length ≤ 1099511627776 ∧ l1.length ≤ 1099511627776
   ·rw [if_pos c5] at h
    have HC5 := Aside0.mk c5
    clear c5
    replace h := Option.bind_eq_some_iff.1 h
    obtain ⟨o, ho, h⟩ := h
    have HOO := Aside0.mk ho
    clear ho
    simp only [Option.some.injEq, Prod.mk.injEq] at h
    obtain ⟨rfl, rfl⟩ := h
    go_enter Try.func88, Try.ntmps88
    go_wp2_with (go_at_call 57; (with_reducible refine (span_Check.calls k _ _ l0 e _ HR0.out HC0.out HE.out).mono ?_); rintro e1 w1 ⟨rfl, hb⟩; have HB1 := Aside0.mk hb; clear hb)
    go_wp2_with (go_at_call 57; (with_reducible refine (span_Check.calls k _ _ l1 e' _ (Kd.C_below HR1.out HB1.out) HC1.out HE'.out).mono ?_); rintro e1 w2 ⟨rfl, hb⟩; have HB2 := Aside0.mk (below_step HB1.out hb); clear hb)
    go_wp2_with (go_at_call 129; refine (merged_calls g HENT.out W HCL.out k _ _ l0 _ _ l1 o _ (Kd.C_below HR0.out HB2.out) HC0.out (Kd.C_below HR1.out HB2.out) HC1.out HC5.out.1 HC5.out.2 HOO.out).mono ?_; rintro e1 w3 ⟨v, rfl, hR, hb⟩)
    obtain ⟨A9, n9, hv9⟩ := Kd.R_slice hR
    subst hv9
    have HR9 := Aside0.mk (Kd.R_lower hR HB2.out.size)
    have HB9 := Aside0.mk (below_step HB2.out hb)
    clear hR hb
    go_wp2
    go_ret2
    exact ⟨_, rfl, HR9.out, HB9.out⟩
   ·rw [if_neg c5] at h
    cases h
  ·rw [if_neg c4] at h
   have c4b : (e' != 0) = true := bne_iff_ne.mpr c4
   clear c4
   simp only [Option.some.injEq, Prod.mk.injEq] at h
   obtain ⟨rfl, rfl⟩ := h
   go_enter Try.func88, Try.ntmps88
   go_wp2_with (go_at_call 57; (with_reducible refine (span_Check.calls k _ _ l0 e _ HR0.out HC0.out HE.out).mono ?_); rintro e1 w1 ⟨rfl, hb⟩; have HB1 := Aside0.mk hb; clear hb)
   go_wp2_with (go_at_call 57; (with_reducible refine (span_Check.calls k _ _ l1 _ _ (Kd.C_below HR1.out HB1.out) HC1.out HE'.out).mono ?_); rintro e1 w2 ⟨rfl, hb⟩; have HB2 := Aside0.mk (below_step HB1.out hb); clear hb)
   go_wp2
   go_ret2
   exact ⟨_, rfl, Kd.R_nil _ _ _ _ _, HB2.out⟩
 ·rw [if_neg c3] at h
  have c3b : (e != 0) = true := bne_iff_ne.mpr c3
  clear c3
  simp only [Option.some.injEq, Prod.mk.injEq] at h
  obtain ⟨rfl, rfl⟩ := h
  go_enter Try.func88, Try.ntmps88
  go_wp2_with (go_at_call 57; (with_reducible refine (span_Check.calls k _ _ l0 _ _ HR0.out HC0.out HE.out).mono ?_); rintro e1 w1 ⟨rfl, hb⟩; have HB1 := Aside0.mk hb; clear hb)
  go_wp2
  go_ret2
  exact ⟨_, rfl, Kd.R_nil _ _ _ _ _, HB1.out⟩
def span_Minus.f (k : Nat) (l0 l1 : List S44) : Option (List S44 × Int) := twoF (fun x y => x && !y) k l0 l1
theorem span_Minus.mono : ∀ a0 a1 k, LeO (span_Minus.f k a0 a1) (span_Minus.f (k + 1) a0 a1) := fun a0 a1 k => twoF_mono _ a0 a1 k
set_option maxRecDepth 100000 in
set_option maxHeartbeats 4000000 in
theorem span_Minus.calls (k : Nat) (A0 : Option Addr) (c0 : Nat) (l0 : List (S44)) (A1 : Option Addr) (c1 : Nat) (l1 : List (S44)) (r1 : List (S44)) (r2 : Int) (w : World) (hr0 : Kd.C k44 w A0 l0.length l0) (hc0 : l0.length ≤ c0) (hr1 : Kd.C k44 w A1 l1.length l1) (hc1 : l1.length ≤ c1) (h : span_Minus.f k l0 l1 = some (r1, r2)) :
  Calls Try.prog 52 #[.slice A0 l0.length c0, .slice A1 l1.length c1] w fun e w' => ∃ v0_ : Value, e = .returned (.tuple #[v0_, .int .i64 r2]) ∧ Kd.R k44 44 w' w.heap.size (fun _ => True) v0_ r1 ∧ Below w.heap.size w w' := by
 have HT := Aside0.mk (two_calls 89 (enters_any Try.func89 rfl rfl) (fun x y => x && !y) minus1 k A0 c0 l0 A1 c1 l1 r1 r2 w hr0 hc0 hr1 hc1 h)
 clear hr0 hc0 hr1 hc1 h
 go_enter Try.func52, Try.ntmps52
 go_wp2_with (go_at_call 88; refine HT.out.mono ?_; rintro e1 w1 ⟨v, rfl, hR, hb⟩)
 obtain ⟨A9, n9, hv9⟩ := Kd.R_slice hR
 subst hv9
 have HR9 := Aside0.mk hR
 have HB9 := Aside0.mk hb
 clear hR hb
 go_wp2
 go_ret2
 exact ⟨_, rfl, HR9.out, HB9.out⟩
end Go.Proofs.Ytlcodfjlbhjkbaa.PDelta.Sp
end
section
namespace Go.Proofs.Ytlcodfjlbhjkbaa.PDelta
open Go.RowKit Go.Proofs.YtlcodfjlbhjkbaaW.PrintWords Go.Proofs.YtlcodfjlbhjkbaaW.PrintLast Go.Proofs.YtlcodfjlbhjkbaaW.PrintMore
attribute [local go_sem] max2_int min2_int max_two min_two max_three min_three max_four min_four
attribute [local go_sem high] Go.Proofs.Ytlcodfjlbhjkbaa.Ord.leq_str Go.Proofs.Ytlcodfjlbhjkbaa.Ord.gtr_str Go.Proofs.Ytlcodfjlbhjkbaa.Ord.geq_str
mutual
def axis_Check.l0 : Nat → List (S121) → Int → Int → List (S121) → Int → Int → Option (Int)
 | 0, _, _, _, _, _, _ => none
 | k + 1, x0, x3, x4, x7, x8, x9 => if x9 < x8 then (if 0 ≤ x9 then (if x9 < (x7.length : Int) then (if ((rd_T121 x7 x9).f0) < 0 then (axis_Check.j1 k x0 x3 x4 x9 x7 x8 x9 true ((rd_T121 x7 x9).f0) ((rd_T121 x7 x9).f1)) else (axis_Check.j1 k x0 x3 x4 x9 x7 x8 x9 (decide (((rd_T121 x7 x9).f0) > 2)) ((rd_T121 x7 x9).f0) ((rd_T121 x7 x9).f1))) else (none)) else (none)) else (if x3 > 2147483647 then (some 3) else (if x4 > 2147483647 then (some 3) else (some 0)))
def axis_Check.j3 : Nat → List (S121) → Int → Int → List (S121) → Int → Int → Int → Int → Option (Int)
 | 0, _, _, _, _, _, _, _, _ => none
 | k + 1, x0, x3, x4, x7, x8, x9, x464000, x464001 => if x464000 = 1 then (if x464000 = 2 then (axis_Check.l0 k x0 x3 x4 x7 x8 (wrap64 (x9 + 1))) else (axis_Check.l0 k x0 x3 (mn (wrap64 (x4 + x464001)) 2147483648) x7 x8 (wrap64 (x9 + 1)))) else (if x464000 = 2 then (axis_Check.l0 k x0 (mn (wrap64 (x3 + x464001)) 2147483648) x4 x7 x8 (wrap64 (x9 + 1))) else (axis_Check.l0 k x0 (mn (wrap64 (x3 + x464001)) 2147483648) (mn (wrap64 (x4 + x464001)) 2147483648) x7 x8 (wrap64 (x9 + 1))))
def axis_Check.j1 : Nat → List (S121) → Int → Int → Int → List (S121) → Int → Int → Bool → Int → Int → Option (Int)
 | 0, _, _, _, _, _, _, _, _, _, _ => none
 | k + 1, x0, x3, x4, x5, x7, x8, x9, x14, x464000, x464001 => if x14 = true then (some 8) else (if x464001 < 1 then (axis_Check.j2 k x0 x3 x4 x5 x7 x8 x9 true x464000 x464001) else (axis_Check.j2 k x0 x3 x4 x5 x7 x8 x9 (decide (x464001 > 2147483647)) x464000 x464001))
def axis_Check.j2 : Nat → List (S121) → Int → Int → Int → List (S121) → Int → Int → Bool → Int → Int → Option (Int)
 | 0, _, _, _, _, _, _, _, _, _, _ => none
 | k + 1, x0, x3, x4, x5, x7, x8, x9, x23, x464000, x464001 => if x23 = true then (some 2) else (if x5 > 0 then (if 0 ≤ (wrap64 (x5 - 1)) then (if (wrap64 (x5 - 1)) < (x0.length : Int) then (if ((rd_T121 x0 (wrap64 (x5 - 1))).f0) = x464000 then (some 5) else (if ((rd_T121 x0 (wrap64 (x5 - 1))).f0) = 2 then (if x464000 = 1 then (some 5) else (axis_Check.j3 k x0 x3 x4 x7 x8 x9 x464000 x464001)) else (axis_Check.j3 k x0 x3 x4 x7 x8 x9 x464000 x464001))) else (none)) else (none)) else (axis_Check.j3 k x0 x3 x4 x7 x8 x9 x464000 x464001))
end
def axis_Check.f (k : Nat) (l0 : List (S121)) : Option (Int) := axis_Check.l0 k l0 0 0 l0 (l0.length : Int) 0
set_option maxHeartbeats 8000000 in
set_option maxRecDepth 100000 in
theorem axis_Check.calls (k : Nat) (A0 : Option Addr) (c0 : Nat) (l0 : List (S121)) (r : Int) (w : World) (hr0 : Kd.C k121 w A0 l0.length l0) (hc0 : l0.length ≤ c0) (h : axis_Check.f k l0 = some r) :
  Calls Try.prog 69 #[.slice A0 l0.length c0] w fun e w' => e = .returned (.int .i64 r) ∧ Below w.heap.size w w' := by
 have hu121 := Try.underlying121
 have HR0 := Aside0.mk hr0
 have HC0 := Aside0.mk hc0
 clear hr0 hc0
 have HB := Aside0.mk (Below.refl w.heap.size w)
 have H : (axis_Check.l0 k l0 0 0 l0 (l0.length : Int) 0) = some r := h
 clear h
 have H' := Aside0.mk H
 clear H
 go_enter Try.func69, Try.ntmps69
 go_wp2
 repeat (go_quiet (fail); try go_wp2)
 go_loopg [3, 4, 9] k (fun kq v3 v4 v9 w' => ∃ (x3_1 : Int) (x4_1 : Int) (x9_1 : Int), v3 = .int .i64 x3_1 ∧ v4 = .int .i64 x4_1 ∧ v9 = .int .i64 x9_1 ∧ Aside0 (axis_Check.l0 kq l0 x3_1 x4_1 l0 (l0.length : Int) x9_1 = some r) ∧ Aside0 (kq ≤ k) ∧ Aside0 (Below w.heap.size w w'))
 case atStart => exact ⟨(0), (0), (0), (by first | rfl | (simp; done) | (simp [*]; done)), (by first | rfl | (simp; done) | (simp [*]; done)), (by first | rfl | (simp; done) | (simp [*]; done)), H', ⟨Nat.le_refl _⟩, ⟨by repeat (first | (with_reducible first | exact HB.out | apply below_alloc | apply pw_below_drewN | apply below_drew1) | exact HB.out)⟩⟩
 case round =>
  clear H'
  obtain ⟨x3_1, x4_1, x9_1, rfl, rfl, rfl, HA, HK1, HB⟩ := hrel
  cases gk with
  | zero => exact absurd HA.out (by simp [axis_Check.l0])
  | succ k1 =>
   have H := HA.out
   clear HA
   simp only [axis_Check.l0] at H
   by_cases c2 : x9_1 < (l0.length : Int)
   ·rw [if_pos c2] at H
    have c2b0 : decide (x9_1 < (l0.length : Int)) = true := decide_eq_true c2
    clear c2
    by_cases c3 : 0 ≤ x9_1
    ·rw [if_pos c3] at H
     have c3b0 : decide (0 ≤ x9_1) = true := decide_eq_true c3
     clear c3
     by_cases c4 : x9_1 < (l0.length : Int)
     ·rw [if_pos c4] at H
      have c4b0 : decide (x9_1 < (l0.length : Int)) = true := decide_eq_true c4
      clear c4
      have HC5 := Aside0.mk H
      clear H
      have p462 : 0 ≤ (x9_1 : Int) := of_decide_eq_true (by assumption)
      have q462 : x9_1 < (l0.length : Int) := of_decide_eq_true (by assumption)
      obtain ⟨ad462, e462, hx462_0, hx462_1⟩ := at_T121 HR0.out x9_1 p462 q462
      cases e462
      replace hx462_0 := (HB.out.cell (World.block_lt_of_cell? w _ hx462_0)).trans hx462_0
      replace hx462_1 := (HB.out.cell (World.block_lt_of_cell? w _ hx462_1)).trans hx462_1
      replace p462 := eq_true p462
      replace q462 := eq_true q462
      go_upto_block 2 with (first | ((with_reducible refine gate_dst (N := 6) rfl ?_); refine box_event ?hg (N := 6) ?hd (cs := #[.int .i64 0, .int .i64 0]) (t := 121) ?hr ?_; (case hd => rfl); (case hg => rfl); (case hr => first | (go_simp; done) | (go_simp; rfl)); intro gb463 hg w6 hbox hb; have n0_ := Aside0.mk (below_step (by with_reducible repeat first | exact HB.out | apply below_alloc | apply pw_below_drewN | apply below_drew1) hb); have n1_ := Aside0.mk (hbox); have n2_ := Aside0.mk ((by rw [hg]; exact (below_size (by with_reducible repeat first | exact HB.out | apply below_alloc | apply pw_below_drewN | apply below_drew1)) : w.heap.size ≤ gb463)); have n3_ := Aside0.mk ((by rw [hg]; exact (below_size (by with_reducible repeat first | exact HB.out | apply below_alloc | apply pw_below_drewN | apply below_drew1)) : w.heap.size ≤ gb463)); clear HB; have HB := n0_; have BK463 := n1_; have GW463 := n2_; have GE463 := n3_; clear n0_ n1_ n2_ n3_; clear hb hbox hg; have hcz7_0 : w6.cell? ⟨gb463, 0, none⟩ = some (.int .i64 0) := (blk_cell BK463.out 0).trans rfl; have hcz7_1 : w6.cell? ⟨gb463, 1, none⟩ = some (.int .i64 0) := (blk_cell BK463.out 1).trans rfl; have hfz7_0 := blk_frozen BK463.out 0; have hfz7_1 := blk_frozen BK463.out 1))
      repeat (go_quiet (first | ((with_reducible refine gate_dst (N := 6) rfl ?_); refine box_event ?hg (N := 6) ?hd (cs := #[.int .i64 0, .int .i64 0]) (t := 121) ?hr ?_; (case hd => rfl); (case hg => rfl); (case hr => first | (go_simp; done) | (go_simp; rfl)); intro gb463 hg w6 hbox hb; have n0_ := Aside0.mk (below_step (by with_reducible repeat first | exact HB.out | apply below_alloc | apply pw_below_drewN | apply below_drew1) hb); have n1_ := Aside0.mk (hbox); have n2_ := Aside0.mk ((by rw [hg]; exact (below_size (by with_reducible repeat first | exact HB.out | apply below_alloc | apply pw_below_drewN | apply below_drew1)) : w.heap.size ≤ gb463)); have n3_ := Aside0.mk ((by rw [hg]; exact (below_size (by with_reducible repeat first | exact HB.out | apply below_alloc | apply pw_below_drewN | apply below_drew1)) : w.heap.size ≤ gb463)); clear HB; have HB := n0_; have BK463 := n1_; have GW463 := n2_; have GE463 := n3_; clear n0_ n1_ n2_ n3_; clear hb hbox hg; have hcz7_0 : w6.cell? ⟨gb463, 0, none⟩ = some (.int .i64 0) := (blk_cell BK463.out 0).trans rfl; have hcz7_1 : w6.cell? ⟨gb463, 1, none⟩ = some (.int .i64 0) := (blk_cell BK463.out 1).trans rfl; have hfz7_0 := blk_frozen BK463.out 0; have hfz7_1 := blk_frozen BK463.out 1)); go_upto_block 2 with (first | ((with_reducible refine gate_dst (N := 6) rfl ?_); refine box_event ?hg (N := 6) ?hd (cs := #[.int .i64 0, .int .i64 0]) (t := 121) ?hr ?_; (case hd => rfl); (case hg => rfl); (case hr => first | (go_simp; done) | (go_simp; rfl)); intro gb463 hg w6 hbox hb; have n0_ := Aside0.mk (below_step (by with_reducible repeat first | exact HB.out | apply below_alloc | apply pw_below_drewN | apply below_drew1) hb); have n1_ := Aside0.mk (hbox); have n2_ := Aside0.mk ((by rw [hg]; exact (below_size (by with_reducible repeat first | exact HB.out | apply below_alloc | apply pw_below_drewN | apply below_drew1)) : w.heap.size ≤ gb463)); have n3_ := Aside0.mk ((by rw [hg]; exact (below_size (by with_reducible repeat first | exact HB.out | apply below_alloc | apply pw_below_drewN | apply below_drew1)) : w.heap.size ≤ gb463)); clear HB; have HB := n0_; have BK463 := n1_; have GW463 := n2_; have GE463 := n3_; clear n0_ n1_ n2_ n3_; clear hb hbox hg; have hcz7_0 : w6.cell? ⟨gb463, 0, none⟩ = some (.int .i64 0) := (blk_cell BK463.out 0).trans rfl; have hcz7_1 : w6.cell? ⟨gb463, 1, none⟩ = some (.int .i64 0) := (blk_cell BK463.out 1).trans rfl; have hfz7_0 := blk_frozen BK463.out 0; have hfz7_1 := blk_frozen BK463.out 1)))
      (try simp only [Act.put, List.setIfInBounds_toArray, List.set_cons_zero, List.set_cons_succ])
      go_cut [] (fun wc => ∃ (kq : Nat), Aside0 (axis_Check.j3 kq l0 x3_1 x4_1 l0 (l0.length : Int) x9_1 ((rd_T121 l0 x9_1).f0) ((rd_T121 l0 x9_1).f1) = some r) ∧ Aside0 (kq ≤ k1) ∧ Aside0 (wc.heap[gb463]? = some (.cells #[.int .i64 ((rd_T121 l0 x9_1).f0), .int .i64 ((rd_T121 l0 x9_1).f1)] 121 (0, 0))) ∧ Aside0 (Below w.heap.size w wc))
      case first =>
       have H := HC5.out
       clear HC5
       have HC8 := Aside0.mk H
       clear H
       go_upto_region 5 with (fail)
       repeat (go_quiet (fail); go_upto_region 5 with (fail))
       go_cut [14] (fun v14 wc => ∃ (kq : Nat) (x14_7 : Bool), v14 = .bool x14_7 ∧ Aside0 (axis_Check.j1 kq l0 x3_1 x4_1 x9_1 l0 (l0.length : Int) x9_1 x14_7 ((rd_T121 l0 x9_1).f0) ((rd_T121 l0 x9_1).f1) = some r) ∧ Aside0 (kq ≤ k1) ∧ Aside0 (wc.heap[gb463]? = some (.cells #[.int .i64 ((rd_T121 l0 x9_1).f0), .int .i64 ((rd_T121 l0 x9_1).f1)] 121 (0, 0))) ∧ Aside0 (Below w.heap.size w wc))
       case first =>
        have H := HC8.out
        clear HC8
        by_cases c9 : ((rd_T121 l0 x9_1).f0) < 0
        ·rw [if_pos c9] at H
         have c9b0 : decide (((rd_T121 l0 x9_1).f0) < 0) = true := decide_eq_true c9
         clear c9
         (first | rw [c9b0] | (simp only [i64_w, i32_w]; rw [c9b0]) | skip)
         have H' := Aside0.mk H
         clear H
         have hcz10_0 : w6.cell? ⟨gb463, 0, none⟩ = some (.int .i64 0) := (blk_cell BK463.out 0).trans rfl
         have hcz10_1 : w6.cell? ⟨gb463, 1, none⟩ = some (.int .i64 0) := (blk_cell BK463.out 1).trans rfl
         have hfz10_0 := blk_frozen BK463.out 0
         have hfz10_1 := blk_frozen BK463.out 1
         go_wp2
         repeat (go_quiet (fail); try go_wp2)
         go_meet
         case rel => exact ⟨_, (true), (by first | rfl | (simp; done) | (simp [*]; done)), H', ⟨by have := HK1.out; first | omega | exact Nat.le_refl _⟩, ⟨by (with_reducible repeat (first | refine blk_drewN ?_ _ | refine blk_drew ?_ | refine blk_alloc ?_ _)); refine blk_put (cs := #[.int .i64 ((rd_T121 l0 x9_1).f0), .int .i64 0]) ?_ 1 _ rfl; (with_reducible repeat (first | refine blk_drewN ?_ _ | refine blk_drew ?_ | refine blk_alloc ?_ _)); refine blk_put (cs := #[.int .i64 0, .int .i64 0]) ?_ 0 _ rfl; (with_reducible repeat (first | refine blk_drewN ?_ _ | refine blk_drew ?_ | refine blk_alloc ?_ _)); exact BK463.out⟩, ⟨by repeat (first | (with_reducible first | exact HB.out | apply below_alloc | apply pw_below_drewN | apply below_drew1 | refine below_set ?_ GE463.out) | exact HB.out)⟩⟩
        ·rw [if_neg c9] at H
         have c9b0 : decide (((rd_T121 l0 x9_1).f0) < 0) = false := decide_eq_false c9
         clear c9
         (first | rw [c9b0] | (simp only [i64_w, i32_w]; rw [c9b0]) | skip)
         have H' := Aside0.mk H
         clear H
         have hcz11_0 : w6.cell? ⟨gb463, 0, none⟩ = some (.int .i64 0) := (blk_cell BK463.out 0).trans rfl
         have hcz11_1 : w6.cell? ⟨gb463, 1, none⟩ = some (.int .i64 0) := (blk_cell BK463.out 1).trans rfl
         have hfz11_0 := blk_frozen BK463.out 0
         have hfz11_1 := blk_frozen BK463.out 1
         go_wp2
         repeat (go_quiet (fail); try go_wp2)
         go_meet
         case rel => exact ⟨_, (decide (((rd_T121 l0 x9_1).f0) > 2)), (by first | rfl | (simp; done) | (simp [*]; done)), H', ⟨by have := HK1.out; first | omega | exact Nat.le_refl _⟩, ⟨by (with_reducible repeat (first | refine blk_drewN ?_ _ | refine blk_drew ?_ | refine blk_alloc ?_ _)); refine blk_put (cs := #[.int .i64 ((rd_T121 l0 x9_1).f0), .int .i64 0]) ?_ 1 _ rfl; (with_reducible repeat (first | refine blk_drewN ?_ _ | refine blk_drew ?_ | refine blk_alloc ?_ _)); refine blk_put (cs := #[.int .i64 0, .int .i64 0]) ?_ 0 _ rfl; (with_reducible repeat (first | refine blk_drewN ?_ _ | refine blk_drew ?_ | refine blk_alloc ?_ _)); exact BK463.out⟩, ⟨by repeat (first | (with_reducible first | exact HB.out | apply below_alloc | apply pw_below_drewN | apply below_drew1 | refine below_set ?_ GE463.out) | exact HB.out)⟩⟩
       case rest =>
        clear HC8
        try clear c2
        try clear c2b0
        try clear p2
        try clear c3
        try clear c3b0
        try clear c4
        try clear c4b0
        try clear p4
        try clear q4
        try clear hx4
        try clear c6
        try clear c9
        try clear c9b0
        try clear hcz10_0
        try clear hcz10_1
        try clear hcz11_0
        try clear hcz11_1
        try clear hcz7_0
        try clear hcz7_1
        try clear hfz10_0
        try clear hfz10_1
        try clear hfz11_0
        try clear hfz11_1
        try clear hfz7_0
        try clear hfz7_1
        try clear hx462_0
        try clear hx462_1
        try clear p462
        try clear q462
        obtain ⟨kq, x14_7, rfl, HA, HJ7, BK463, HB⟩ := hcut
        cases kq with
        | zero => exact absurd HA.out (by simp [axis_Check.j1])
        | succ kj7 =>
         have H := HA.out
         clear HA
         simp only [axis_Check.j1] at H
         by_cases c12 : x14_7 = true
         ·subst c12
          have H1 : (some 8) = some r := by rw [if_pos rfl] at H; exact H
          clear H
          have H := H1
          clear H1
          obtain rfl := Option.some.inj H
          go_wp2
          repeat (go_quiet (fail); try go_wp2)
          go_ret
          exact ⟨by first | rfl | (simp [errW_none, errW_some] <;> rfl) | (simp [*, errW_none, errW_some] <;> rfl), by repeat (first | (with_reducible first | exact HB.out | apply below_alloc | apply pw_below_drewN | apply below_drew1 | refine below_set ?_ GE463.out) | exact HB.out)⟩
         ·replace c12 := Bool.eq_false_iff.mpr c12
          subst c12
          have H1 : (if ((rd_T121 l0 x9_1).f1) < 1 then (axis_Check.j2 kj7 l0 x3_1 x4_1 x9_1 l0 (l0.length : Int) x9_1 true ((rd_T121 l0 x9_1).f0) ((rd_T121 l0 x9_1).f1)) else (axis_Check.j2 kj7 l0 x3_1 x4_1 x9_1 l0 (l0.length : Int) x9_1 (decide (((rd_T121 l0 x9_1).f1) > 2147483647)) ((rd_T121 l0 x9_1).f0) ((rd_T121 l0 x9_1).f1))) = some r := by rw [if_neg (show ¬ (false = true) by decide)] at H; exact H
          clear H
          have H := H1
          clear H1
          have HC13 := Aside0.mk H
          clear H
          go_upto_region 7 with (fail)
          repeat (go_quiet (fail); go_upto_region 7 with (fail))
          go_cut [23] (fun v23 wc => ∃ (kq : Nat) (x23_12 : Bool), v23 = .bool x23_12 ∧ Aside0 (axis_Check.j2 kq l0 x3_1 x4_1 x9_1 l0 (l0.length : Int) x9_1 x23_12 ((rd_T121 l0 x9_1).f0) ((rd_T121 l0 x9_1).f1) = some r) ∧ Aside0 (kq ≤ kj7) ∧ Aside0 (wc.heap[gb463]? = some (.cells #[.int .i64 ((rd_T121 l0 x9_1).f0), .int .i64 ((rd_T121 l0 x9_1).f1)] 121 (0, 0))) ∧ Aside0 (Below w.heap.size w wc))
          case first =>
           have H := HC13.out
           clear HC13
           by_cases c14 : ((rd_T121 l0 x9_1).f1) < 1
           ·rw [if_pos c14] at H
            have c14b0 : decide (((rd_T121 l0 x9_1).f1) < 1) = true := decide_eq_true c14
            clear c14
            (first | rw [c14b0] | (simp only [i64_w, i32_w]; rw [c14b0]) | skip)
            have H' := Aside0.mk H
            clear H
            have hcz15_0 : wc.cell? ⟨gb463, 0, none⟩ = some (.int .i64 ((rd_T121 l0 x9_1).f0)) := (blk_cell BK463.out 0).trans rfl
            have hcz15_1 : wc.cell? ⟨gb463, 1, none⟩ = some (.int .i64 ((rd_T121 l0 x9_1).f1)) := (blk_cell BK463.out 1).trans rfl
            have hfz15_0 := blk_frozen BK463.out 0
            have hfz15_1 := blk_frozen BK463.out 1
            go_wp2
            repeat (go_quiet (fail); try go_wp2)
            go_meet
            case rel => exact ⟨_, (true), (by first | rfl | (simp; done) | (simp [*]; done)), H', ⟨by have := HK1.out; have := HJ7.out; first | omega | exact Nat.le_refl _⟩, ⟨by (with_reducible repeat (first | refine blk_drewN ?_ _ | refine blk_drew ?_ | refine blk_alloc ?_ _)); exact BK463.out⟩, ⟨by repeat (first | (with_reducible first | exact HB.out | apply below_alloc | apply pw_below_drewN | apply below_drew1 | refine below_set ?_ GE463.out) | exact HB.out)⟩⟩
           ·rw [if_neg c14] at H
            have c14b0 : decide (((rd_T121 l0 x9_1).f1) < 1) = false := decide_eq_false c14
            clear c14
            (first | rw [c14b0] | (simp only [i64_w, i32_w]; rw [c14b0]) | skip)
            have H' := Aside0.mk H
            clear H
            have hcz16_0 : wc.cell? ⟨gb463, 0, none⟩ = some (.int .i64 ((rd_T121 l0 x9_1).f0)) := (blk_cell BK463.out 0).trans rfl
            have hcz16_1 : wc.cell? ⟨gb463, 1, none⟩ = some (.int .i64 ((rd_T121 l0 x9_1).f1)) := (blk_cell BK463.out 1).trans rfl
            have hfz16_0 := blk_frozen BK463.out 0
            have hfz16_1 := blk_frozen BK463.out 1
            go_wp2
            repeat (go_quiet (fail); try go_wp2)
            go_meet
            case rel => exact ⟨_, (decide (((rd_T121 l0 x9_1).f1) > 2147483647)), (by first | rfl | (simp; done) | (simp [*]; done)), H', ⟨by have := HK1.out; have := HJ7.out; first | omega | exact Nat.le_refl _⟩, ⟨by (with_reducible repeat (first | refine blk_drewN ?_ _ | refine blk_drew ?_ | refine blk_alloc ?_ _)); exact BK463.out⟩, ⟨by repeat (first | (with_reducible first | exact HB.out | apply below_alloc | apply pw_below_drewN | apply below_drew1 | refine below_set ?_ GE463.out) | exact HB.out)⟩⟩
          case rest =>
           clear HC13
           try clear c1
           try clear c2
           try clear c2b0
           try clear p2
           try clear c3
           try clear c3b0
           try clear c4
           try clear c4b0
           try clear p4
           try clear q4
           try clear hx4
           try clear c6
           try clear c9
           try clear c9b0
           try clear c12
           try clear c14
           try clear c14b0
           try clear hcz10_0
           try clear hcz10_1
           try clear hcz11_0
           try clear hcz11_1
           try clear hcz15_0
           try clear hcz15_1
           try clear hcz16_0
           try clear hcz16_1
           try clear hcz7_0
           try clear hcz7_1
           try clear hfz10_0
           try clear hfz10_1
           try clear hfz11_0
           try clear hfz11_1
           try clear hfz15_0
           try clear hfz15_1
           try clear hfz16_0
           try clear hfz16_1
           try clear hfz7_0
           try clear hfz7_1
           try clear hx462_0
           try clear hx462_1
           try clear p2
           try clear p4
           try clear p462
           try clear q4
           try clear q462
           obtain ⟨kq, x23_12, rfl, HA, HJ12, BK463, HB⟩ := hcut
           cases kq with
           | zero => exact absurd HA.out (by simp [axis_Check.j2])
           | succ kj12 =>
            have H := HA.out
            clear HA
            simp only [axis_Check.j2] at H
            by_cases c17 : x23_12 = true
            ·subst c17
             have H1 : (some 2) = some r := by rw [if_pos rfl] at H; exact H
             clear H
             have H := H1
             clear H1
             obtain rfl := Option.some.inj H
             go_wp2
             repeat (go_quiet (fail); try go_wp2)
             go_ret
             exact ⟨by first | rfl | (simp [errW_none, errW_some] <;> rfl) | (simp [*, errW_none, errW_some] <;> rfl), by repeat (first | (with_reducible first | exact HB.out | apply below_alloc | apply pw_below_drewN | apply below_drew1 | refine below_set ?_ GE463.out) | exact HB.out)⟩
            ·replace c17 := Bool.eq_false_iff.mpr c17
             subst c17
             have H1 : (if x9_1 > 0 then (if 0 ≤ (wrap64 (x9_1 - 1)) then (if (wrap64 (x9_1 - 1)) < (l0.length : Int) then (if ((rd_T121 l0 (wrap64 (x9_1 - 1))).f0) = ((rd_T121 l0 x9_1).f0) then (some 5) else (if ((rd_T121 l0 (wrap64 (x9_1 - 1))).f0) = 2 then (if ((rd_T121 l0 x9_1).f0) = 1 then (some 5) else (axis_Check.j3 kj12 l0 x3_1 x4_1 l0 (l0.length : Int) x9_1 ((rd_T121 l0 x9_1).f0) ((rd_T121 l0 x9_1).f1))) else (axis_Check.j3 kj12 l0 x3_1 x4_1 l0 (l0.length : Int) x9_1 ((rd_T121 l0 x9_1).f0) ((rd_T121 l0 x9_1).f1)))) else (none)) else (none)) else (axis_Check.j3 kj12 l0 x3_1 x4_1 l0 (l0.length : Int) x9_1 ((rd_T121 l0 x9_1).f0) ((rd_T121 l0 x9_1).f1))) = some r := by rw [if_neg (show ¬ (false = true) by decide)] at H; exact H
             clear H
             have H := H1
             clear H1
             by_cases c18 : x9_1 > 0
             ·rw [if_pos c18] at H
              have c18b0 : decide (0 < x9_1) = true := decide_eq_true c18
              clear c18
              obtain ⟨ji19, hji19⟩ : ∃ j_ : Int, (wrap64 (x9_1 - 1)) = j_ := ⟨_, rfl⟩
              replace H : (if 0 ≤ (ji19) then (if (ji19) < (l0.length : Int) then (if ((rd_T121 l0 (ji19)).f0) = ((rd_T121 l0 x9_1).f0) then (some 5) else (if ((rd_T121 l0 (ji19)).f0) = 2 then (if ((rd_T121 l0 x9_1).f0) = 1 then (some 5) else (axis_Check.j3 kj12 l0 x3_1 x4_1 l0 (l0.length : Int) x9_1 ((rd_T121 l0 x9_1).f0) ((rd_T121 l0 x9_1).f1))) else (axis_Check.j3 kj12 l0 x3_1 x4_1 l0 (l0.length : Int) x9_1 ((rd_T121 l0 x9_1).f0) ((rd_T121 l0 x9_1).f1)))) else (none)) else (none)) = some r := by first | (rw [hji19] at H; exact H) | (simp only [hji19] at H ⊢; exact H)
              have hji19w : (IntKind.i64.wrap (x9_1 - 1)) = ji19 := (i64_w _).trans hji19
              by_cases c20 : 0 ≤ (ji19)
              ·rw [if_pos c20] at H
               have c20b0 : decide (0 ≤ (ji19)) = true := decide_eq_true c20
               clear c20
               by_cases c21 : (ji19) < (l0.length : Int)
               ·rw [if_pos c21] at H
                have c21b0 : decide ((ji19) < (l0.length : Int)) = true := decide_eq_true c21
                clear c21
                by_cases c22 : ((rd_T121 l0 (ji19)).f0) = ((rd_T121 l0 x9_1).f0)
                ·rw [if_pos c22] at H
                 have c22b0 : (((rd_T121 l0 (ji19)).f0) == ((rd_T121 l0 x9_1).f0)) = true := beq_iff_eq.mpr c22
                 have c22b1 : (((rd_T121 l0 (ji19)).f0) != ((rd_T121 l0 x9_1).f0)) = false := bne_eq_false_iff_eq.mpr c22
                 clear c22
                 obtain rfl := Option.some.inj H
                 have p464 : 0 ≤ ((ji19) : Int) := of_decide_eq_true (by assumption)
                 have q464 : (ji19) < (l0.length : Int) := of_decide_eq_true (by assumption)
                 obtain ⟨ad464, e464, hx464_0, hx464_1⟩ := at_T121 HR0.out (ji19) p464 q464
                 obtain rfl : ad462 = ad464 := (by injection e464)
                 replace hx464_0 := (HB.out.cell (World.block_lt_of_cell? w _ hx464_0)).trans hx464_0
                 replace hx464_1 := (HB.out.cell (World.block_lt_of_cell? w _ hx464_1)).trans hx464_1
                 replace p464 := eq_true p464
                 replace q464 := eq_true q464
                 have hcz23_0 : wc.cell? ⟨gb463, 0, none⟩ = some (.int .i64 ((rd_T121 l0 x9_1).f0)) := (blk_cell BK463.out 0).trans rfl
                 have hcz23_1 : wc.cell? ⟨gb463, 1, none⟩ = some (.int .i64 ((rd_T121 l0 x9_1).f1)) := (blk_cell BK463.out 1).trans rfl
                 have hfz23_0 := blk_frozen BK463.out 0
                 have hfz23_1 := blk_frozen BK463.out 1
                 go_wp2
                 repeat (go_quiet (fail); try go_wp2)
                 go_ret
                 exact ⟨by first | rfl | (simp [errW_none, errW_some] <;> rfl) | (simp only [← hji19]; first | rfl | (simp [errW_none, errW_some] <;> rfl)) | (simp [*, errW_none, errW_some] <;> rfl), by repeat (first | (with_reducible first | exact HB.out | apply below_alloc | apply pw_below_drewN | apply below_drew1 | refine below_set ?_ GE463.out) | exact HB.out)⟩
                ·rw [if_neg c22] at H
                 have c22b0 : (((rd_T121 l0 (ji19)).f0) == ((rd_T121 l0 x9_1).f0)) = false := beq_eq_false_iff_ne.mpr c22
                 have c22b1 : (((rd_T121 l0 (ji19)).f0) != ((rd_T121 l0 x9_1).f0)) = true := bne_iff_ne.mpr c22
                 by_cases c24 : ((rd_T121 l0 (ji19)).f0) = 2
                 ·rw [if_pos c24] at H
                  have c24b0 : (((rd_T121 l0 (ji19)).f0) == 2) = true := beq_iff_eq.mpr c24
                  have c24b1 : (((rd_T121 l0 (ji19)).f0) != 2) = false := bne_eq_false_iff_eq.mpr c24
                  clear c24
                  by_cases c25 : ((rd_T121 l0 x9_1).f0) = 1
                  ·rw [if_pos c25] at H
                   have c25b0 : (((rd_T121 l0 x9_1).f0) == 1) = true := beq_iff_eq.mpr c25
                   have c25b1 : (((rd_T121 l0 x9_1).f0) != 1) = false := bne_eq_false_iff_eq.mpr c25
                   clear c25
                   obtain rfl := Option.some.inj H
                   have p464 : 0 ≤ ((ji19) : Int) := of_decide_eq_true (by assumption)
                   have q464 : (ji19) < (l0.length : Int) := of_decide_eq_true (by assumption)
                   obtain ⟨ad464, e464, hx464_0, hx464_1⟩ := at_T121 HR0.out (ji19) p464 q464
                   obtain rfl : ad462 = ad464 := (by injection e464)
                   replace hx464_0 := (HB.out.cell (World.block_lt_of_cell? w _ hx464_0)).trans hx464_0
                   replace hx464_1 := (HB.out.cell (World.block_lt_of_cell? w _ hx464_1)).trans hx464_1
                   replace p464 := eq_true p464
                   replace q464 := eq_true q464
                   have hcz26_0 : wc.cell? ⟨gb463, 0, none⟩ = some (.int .i64 ((rd_T121 l0 x9_1).f0)) := (blk_cell BK463.out 0).trans rfl
                   have hcz26_1 : wc.cell? ⟨gb463, 1, none⟩ = some (.int .i64 ((rd_T121 l0 x9_1).f1)) := (blk_cell BK463.out 1).trans rfl
                   have hfz26_0 := blk_frozen BK463.out 0
                   have hfz26_1 := blk_frozen BK463.out 1
                   have p465 : 0 ≤ ((ji19) : Int) := of_decide_eq_true (by assumption)
                   have q465 : (ji19) < (l0.length : Int) := of_decide_eq_true (by assumption)
                   obtain ⟨ad465, e465, hx465_0, hx465_1⟩ := at_T121 HR0.out (ji19) p465 q465
                   obtain rfl : ad462 = ad465 := (by injection e465)
                   replace hx465_0 := (HB.out.cell (World.block_lt_of_cell? w _ hx465_0)).trans hx465_0
                   replace hx465_1 := (HB.out.cell (World.block_lt_of_cell? w _ hx465_1)).trans hx465_1
                   replace p465 := eq_true p465
                   replace q465 := eq_true q465
                   go_wp2
                   repeat (go_quiet (fail); try go_wp2)
                   go_ret
                   exact ⟨by first | rfl | (simp [errW_none, errW_some] <;> rfl) | (simp only [← hji19]; first | rfl | (simp [errW_none, errW_some] <;> rfl)) | (simp [*, errW_none, errW_some] <;> rfl), by repeat (first | (with_reducible first | exact HB.out | apply below_alloc | apply pw_below_drewN | apply below_drew1 | refine below_set ?_ GE463.out) | exact HB.out)⟩
                  ·rw [if_neg c25] at H
                   have c25b0 : (((rd_T121 l0 x9_1).f0) == 1) = false := beq_eq_false_iff_ne.mpr c25
                   have c25b1 : (((rd_T121 l0 x9_1).f0) != 1) = true := bne_iff_ne.mpr c25
                   have H' := Aside0.mk H
                   clear H
                   have p464 : 0 ≤ ((ji19) : Int) := of_decide_eq_true (by assumption)
                   have q464 : (ji19) < (l0.length : Int) := of_decide_eq_true (by assumption)
                   obtain ⟨ad464, e464, hx464_0, hx464_1⟩ := at_T121 HR0.out (ji19) p464 q464
                   obtain rfl : ad462 = ad464 := (by injection e464)
                   replace hx464_0 := (HB.out.cell (World.block_lt_of_cell? w _ hx464_0)).trans hx464_0
                   replace hx464_1 := (HB.out.cell (World.block_lt_of_cell? w _ hx464_1)).trans hx464_1
                   replace p464 := eq_true p464
                   replace q464 := eq_true q464
                   have hcz27_0 : wc.cell? ⟨gb463, 0, none⟩ = some (.int .i64 ((rd_T121 l0 x9_1).f0)) := (blk_cell BK463.out 0).trans rfl
                   have hcz27_1 : wc.cell? ⟨gb463, 1, none⟩ = some (.int .i64 ((rd_T121 l0 x9_1).f1)) := (blk_cell BK463.out 1).trans rfl
                   have hfz27_0 := blk_frozen BK463.out 0
                   have hfz27_1 := blk_frozen BK463.out 1
                   have p465 : 0 ≤ ((ji19) : Int) := of_decide_eq_true (by assumption)
                   have q465 : (ji19) < (l0.length : Int) := of_decide_eq_true (by assumption)
                   obtain ⟨ad465, e465, hx465_0, hx465_1⟩ := at_T121 HR0.out (ji19) p465 q465
                   obtain rfl : ad462 = ad465 := (by injection e465)
                   replace hx465_0 := (HB.out.cell (World.block_lt_of_cell? w _ hx465_0)).trans hx465_0
                   replace hx465_1 := (HB.out.cell (World.block_lt_of_cell? w _ hx465_1)).trans hx465_1
                   replace p465 := eq_true p465
                   replace q465 := eq_true q465
                   go_wp2
                   repeat (go_quiet (fail); try go_wp2)
                   go_meet
                   case rel => exact ⟨_, H', ⟨by have := HK1.out; have := HJ7.out; have := HJ12.out; first | omega | exact Nat.le_refl _⟩, ⟨by (with_reducible repeat (first | refine blk_drewN ?_ _ | refine blk_drew ?_ | refine blk_alloc ?_ _)); exact BK463.out⟩, ⟨by repeat (first | (with_reducible first | exact HB.out | apply below_alloc | apply pw_below_drewN | apply below_drew1 | refine below_set ?_ GE463.out) | exact HB.out)⟩⟩
                 ·rw [if_neg c24] at H
                  have c24b0 : (((rd_T121 l0 (ji19)).f0) == 2) = false := beq_eq_false_iff_ne.mpr c24
                  have c24b1 : (((rd_T121 l0 (ji19)).f0) != 2) = true := bne_iff_ne.mpr c24
                  have H' := Aside0.mk H
                  clear H
                  have p464 : 0 ≤ ((ji19) : Int) := of_decide_eq_true (by assumption)
                  have q464 : (ji19) < (l0.length : Int) := of_decide_eq_true (by assumption)
                  obtain ⟨ad464, e464, hx464_0, hx464_1⟩ := at_T121 HR0.out (ji19) p464 q464
                  obtain rfl : ad462 = ad464 := (by injection e464)
                  replace hx464_0 := (HB.out.cell (World.block_lt_of_cell? w _ hx464_0)).trans hx464_0
                  replace hx464_1 := (HB.out.cell (World.block_lt_of_cell? w _ hx464_1)).trans hx464_1
                  replace p464 := eq_true p464
                  replace q464 := eq_true q464
                  have hcz28_0 : wc.cell? ⟨gb463, 0, none⟩ = some (.int .i64 ((rd_T121 l0 x9_1).f0)) := (blk_cell BK463.out 0).trans rfl
                  have hcz28_1 : wc.cell? ⟨gb463, 1, none⟩ = some (.int .i64 ((rd_T121 l0 x9_1).f1)) := (blk_cell BK463.out 1).trans rfl
                  have hfz28_0 := blk_frozen BK463.out 0
                  have hfz28_1 := blk_frozen BK463.out 1
                  have p465 : 0 ≤ ((ji19) : Int) := of_decide_eq_true (by assumption)
                  have q465 : (ji19) < (l0.length : Int) := of_decide_eq_true (by assumption)
                  obtain ⟨ad465, e465, hx465_0, hx465_1⟩ := at_T121 HR0.out (ji19) p465 q465
                  obtain rfl : ad462 = ad465 := (by injection e465)
                  replace hx465_0 := (HB.out.cell (World.block_lt_of_cell? w _ hx465_0)).trans hx465_0
                  replace hx465_1 := (HB.out.cell (World.block_lt_of_cell? w _ hx465_1)).trans hx465_1
                  replace p465 := eq_true p465
                  replace q465 := eq_true q465
                  go_wp2
                  repeat (go_quiet (fail); try go_wp2)
                  go_meet
                  case rel => exact ⟨_, H', ⟨by have := HK1.out; have := HJ7.out; have := HJ12.out; first | omega | exact Nat.le_refl _⟩, ⟨by (with_reducible repeat (first | refine blk_drewN ?_ _ | refine blk_drew ?_ | refine blk_alloc ?_ _)); exact BK463.out⟩, ⟨by repeat (first | (with_reducible first | exact HB.out | apply below_alloc | apply pw_below_drewN | apply below_drew1 | refine below_set ?_ GE463.out) | exact HB.out)⟩⟩
               ·rw [if_neg c21] at H
                exact absurd H (by simp)
              ·rw [if_neg c20] at H
               exact absurd H (by simp)
             ·rw [if_neg c18] at H
              have c18b0 : decide (0 < x9_1) = false := decide_eq_false c18
              clear c18
              have H' := Aside0.mk H
              clear H
              go_wp2
              repeat (go_quiet (fail); try go_wp2)
              go_meet
              case rel => exact ⟨_, H', ⟨by have := HK1.out; have := HJ7.out; have := HJ12.out; first | omega | exact Nat.le_refl _⟩, ⟨by (with_reducible repeat (first | refine blk_drewN ?_ _ | refine blk_drew ?_ | refine blk_alloc ?_ _)); exact BK463.out⟩, ⟨by repeat (first | (with_reducible first | exact HB.out | apply below_alloc | apply pw_below_drewN | apply below_drew1 | refine below_set ?_ GE463.out) | exact HB.out)⟩⟩
      case rest =>
       clear HC5
       try clear c1
       try clear c2
       try clear c2b0
       try clear p2
       try clear c3
       try clear c3b0
       try clear c4
       try clear c4b0
       try clear p4
       try clear q4
       try clear hx4
       try clear c6
       try clear p6
       try clear c9
       try clear c9b0
       try clear c12
       try clear c14
       try clear c14b0
       try clear c17
       try clear c18
       try clear c18b0
       try clear c20
       try clear c20b0
       try clear c21
       try clear c21b0
       try clear c22
       try clear c22b0
       try clear c22b1
       try clear c24
       try clear c24b0
       try clear c24b1
       try clear c25
       try clear c25b0
       try clear c25b1
       try clear hcz10_0
       try clear hcz10_1
       try clear hcz11_0
       try clear hcz11_1
       try clear hcz15_0
       try clear hcz15_1
       try clear hcz16_0
       try clear hcz16_1
       try clear hcz23_0
       try clear hcz23_1
       try clear hcz26_0
       try clear hcz26_1
       try clear hcz27_0
       try clear hcz27_1
       try clear hcz28_0
       try clear hcz28_1
       try clear hcz7_0
       try clear hcz7_1
       try clear hfz10_0
       try clear hfz10_1
       try clear hfz11_0
       try clear hfz11_1
       try clear hfz15_0
       try clear hfz15_1
       try clear hfz16_0
       try clear hfz16_1
       try clear hfz23_0
       try clear hfz23_1
       try clear hfz26_0
       try clear hfz26_1
       try clear hfz27_0
       try clear hfz27_1
       try clear hfz28_0
       try clear hfz28_1
       try clear hfz7_0
       try clear hfz7_1
       try clear hx462_0
       try clear hx462_1
       try clear hx464_0
       try clear hx464_1
       try clear hx465_0
       try clear hx465_1
       try clear p2
       try clear p4
       try clear p462
       try clear p464
       try clear p465
       try clear q4
       try clear q462
       try clear q464
       try clear q465
       obtain ⟨kq, HA, HJ4, BK463, HB⟩ := hcut
       cases kq with
       | zero => exact absurd HA.out (by simp [axis_Check.j3])
       | succ kj4 =>
        have H := HA.out
        clear HA
        simp only [axis_Check.j3] at H
        by_cases c29 : ((rd_T121 l0 x9_1).f0) = 1
        ·rw [if_pos c29] at H
         have c29b0 : (((rd_T121 l0 x9_1).f0) == 1) = true := beq_iff_eq.mpr c29
         have c29b1 : (((rd_T121 l0 x9_1).f0) != 1) = false := bne_eq_false_iff_eq.mpr c29
         clear c29
         by_cases c30 : ((rd_T121 l0 x9_1).f0) = 2
         ·rw [if_pos c30] at H
          have c30b0 : (((rd_T121 l0 x9_1).f0) == 2) = true := beq_iff_eq.mpr c30
          have c30b1 : (((rd_T121 l0 x9_1).f0) != 2) = false := bne_eq_false_iff_eq.mpr c30
          clear c30
          have H' := Aside0.mk H
          clear H
          have hcz31_0 : wc.cell? ⟨gb463, 0, none⟩ = some (.int .i64 ((rd_T121 l0 x9_1).f0)) := (blk_cell BK463.out 0).trans rfl
          have hcz31_1 : wc.cell? ⟨gb463, 1, none⟩ = some (.int .i64 ((rd_T121 l0 x9_1).f1)) := (blk_cell BK463.out 1).trans rfl
          have hfz31_0 := blk_frozen BK463.out 0
          have hfz31_1 := blk_frozen BK463.out 1
          go_wp2
          repeat (go_quiet (fail); try go_wp2)
          go_roundg kj4
          case measure => have := HK1.out; have := HJ4.out; omega
          case rel => exact ⟨(x3_1), (x4_1), (wrap64 (x9_1 + 1)), (by first | rfl | (simp; done) | (simp [*]; done)), (by first | rfl | (simp; done) | (simp [*]; done)), (by first | rfl | (simp; done) | (simp [*]; done)), H', ⟨by have := HK1.out; have := HJ4.out; omega⟩, ⟨by repeat (first | (with_reducible first | exact HB.out | apply below_alloc | apply pw_below_drewN | apply below_drew1 | refine below_set ?_ GE463.out) | exact HB.out)⟩⟩
         ·rw [if_neg c30] at H
          have c30b0 : (((rd_T121 l0 x9_1).f0) == 2) = false := beq_eq_false_iff_ne.mpr c30
          have c30b1 : (((rd_T121 l0 x9_1).f0) != 2) = true := bne_iff_ne.mpr c30
          obtain ⟨ji32, hji32⟩ : ∃ j_ : Int, (mn (wrap64 (x4_1 + ((rd_T121 l0 x9_1).f1))) 2147483648) = j_ := ⟨_, rfl⟩
          replace H : (axis_Check.l0 kj4 l0 x3_1 ji32 l0 (l0.length : Int) (wrap64 (x9_1 + 1))) = some r := by first | (rw [hji32] at H; exact H) | (simp only [hji32] at H ⊢; exact H)
          have hji32_ : (if 2147483648 < (wrap64 (x4_1 + ((rd_T121 l0 x9_1).f1))) then 2147483648 else (wrap64 (x4_1 + ((rd_T121 l0 x9_1).f1)))) = ji32 := hji32
          have H' := Aside0.mk H
          clear H
          have hcz33_0 : wc.cell? ⟨gb463, 0, none⟩ = some (.int .i64 ((rd_T121 l0 x9_1).f0)) := (blk_cell BK463.out 0).trans rfl
          have hcz33_1 : wc.cell? ⟨gb463, 1, none⟩ = some (.int .i64 ((rd_T121 l0 x9_1).f1)) := (blk_cell BK463.out 1).trans rfl
          have hfz33_0 := blk_frozen BK463.out 0
          have hfz33_1 := blk_frozen BK463.out 1
          go_wp2
          repeat (go_quiet (fail); try go_wp2)
          go_roundg kj4
          case measure => have := HK1.out; have := HJ4.out; omega
          case rel => exact ⟨(x3_1), (ji32), (wrap64 (x9_1 + 1)), (by first | rfl | (simp; done) | (simp [*]; done)), (by first | rfl | (simp; done) | (simp only [← hji32] <;> (first | rfl | simp)) | (simp [*]; done)), (by first | rfl | (simp; done) | (simp [*]; done)), H', ⟨by have := HK1.out; have := HJ4.out; omega⟩, ⟨by repeat (first | (with_reducible first | exact HB.out | apply below_alloc | apply pw_below_drewN | apply below_drew1 | refine below_set ?_ GE463.out) | exact HB.out)⟩⟩
        ·rw [if_neg c29] at H
         have c29b0 : (((rd_T121 l0 x9_1).f0) == 1) = false := beq_eq_false_iff_ne.mpr c29
         have c29b1 : (((rd_T121 l0 x9_1).f0) != 1) = true := bne_iff_ne.mpr c29
         obtain ⟨ji34, hji34⟩ : ∃ j_ : Int, (mn (wrap64 (x3_1 + ((rd_T121 l0 x9_1).f1))) 2147483648) = j_ := ⟨_, rfl⟩
         replace H : (if ((rd_T121 l0 x9_1).f0) = 2 then (axis_Check.l0 kj4 l0 ji34 x4_1 l0 (l0.length : Int) (wrap64 (x9_1 + 1))) else (axis_Check.l0 kj4 l0 ji34 (mn (wrap64 (x4_1 + ((rd_T121 l0 x9_1).f1))) 2147483648) l0 (l0.length : Int) (wrap64 (x9_1 + 1)))) = some r := by first | (rw [hji34] at H; exact H) | (simp only [hji34] at H ⊢; exact H)
         have hji34_ : (if 2147483648 < (wrap64 (x3_1 + ((rd_T121 l0 x9_1).f1))) then 2147483648 else (wrap64 (x3_1 + ((rd_T121 l0 x9_1).f1)))) = ji34 := hji34
         by_cases c35 : ((rd_T121 l0 x9_1).f0) = 2
         ·rw [if_pos c35] at H
          have c35b0 : (((rd_T121 l0 x9_1).f0) == 2) = true := beq_iff_eq.mpr c35
          have c35b1 : (((rd_T121 l0 x9_1).f0) != 2) = false := bne_eq_false_iff_eq.mpr c35
          clear c35
          have H' := Aside0.mk H
          clear H
          have hcz36_0 : wc.cell? ⟨gb463, 0, none⟩ = some (.int .i64 ((rd_T121 l0 x9_1).f0)) := (blk_cell BK463.out 0).trans rfl
          have hcz36_1 : wc.cell? ⟨gb463, 1, none⟩ = some (.int .i64 ((rd_T121 l0 x9_1).f1)) := (blk_cell BK463.out 1).trans rfl
          have hfz36_0 := blk_frozen BK463.out 0
          have hfz36_1 := blk_frozen BK463.out 1
          go_wp2
          repeat (go_quiet (fail); try go_wp2)
          go_roundg kj4
          case measure => have := HK1.out; have := HJ4.out; omega
          case rel => exact ⟨(ji34), (x4_1), (wrap64 (x9_1 + 1)), (by first | rfl | (simp; done) | (simp only [← hji34] <;> (first | rfl | simp)) | (simp [*]; done)), (by first | rfl | (simp; done) | (simp [*]; done)), (by first | rfl | (simp; done) | (simp [*]; done)), H', ⟨by have := HK1.out; have := HJ4.out; omega⟩, ⟨by repeat (first | (with_reducible first | exact HB.out | apply below_alloc | apply pw_below_drewN | apply below_drew1 | refine below_set ?_ GE463.out) | exact HB.out)⟩⟩
         ·rw [if_neg c35] at H
          have c35b0 : (((rd_T121 l0 x9_1).f0) == 2) = false := beq_eq_false_iff_ne.mpr c35
          have c35b1 : (((rd_T121 l0 x9_1).f0) != 2) = true := bne_iff_ne.mpr c35
          obtain ⟨ji37, hji37⟩ : ∃ j_ : Int, (mn (wrap64 (x4_1 + ((rd_T121 l0 x9_1).f1))) 2147483648) = j_ := ⟨_, rfl⟩
          replace H : (axis_Check.l0 kj4 l0 ji34 ji37 l0 (l0.length : Int) (wrap64 (x9_1 + 1))) = some r := by first | (rw [hji37] at H; exact H) | (simp only [hji37] at H ⊢; exact H)
          have hji37_ : (if 2147483648 < (wrap64 (x4_1 + ((rd_T121 l0 x9_1).f1))) then 2147483648 else (wrap64 (x4_1 + ((rd_T121 l0 x9_1).f1)))) = ji37 := hji37
          have H' := Aside0.mk H
          clear H
          have hcz38_0 : wc.cell? ⟨gb463, 0, none⟩ = some (.int .i64 ((rd_T121 l0 x9_1).f0)) := (blk_cell BK463.out 0).trans rfl
          have hcz38_1 : wc.cell? ⟨gb463, 1, none⟩ = some (.int .i64 ((rd_T121 l0 x9_1).f1)) := (blk_cell BK463.out 1).trans rfl
          have hfz38_0 := blk_frozen BK463.out 0
          have hfz38_1 := blk_frozen BK463.out 1
          go_wp2
          repeat (go_quiet (fail); try go_wp2)
          go_roundg kj4
          case measure => have := HK1.out; have := HJ4.out; omega
          case rel => exact ⟨(ji34), (ji37), (wrap64 (x9_1 + 1)), (by first | rfl | (simp; done) | (simp only [← hji34] <;> (first | rfl | simp)) | (simp [*]; done)), (by first | rfl | (simp; done) | (simp only [← hji37] <;> (first | rfl | simp)) | (simp [*]; done)), (by first | rfl | (simp; done) | (simp [*]; done)), H', ⟨by have := HK1.out; have := HJ4.out; omega⟩, ⟨by repeat (first | (with_reducible first | exact HB.out | apply below_alloc | apply pw_below_drewN | apply below_drew1 | refine below_set ?_ GE463.out) | exact HB.out)⟩⟩
     ·rw [if_neg c4] at H
      exact absurd H (by simp)
    ·rw [if_neg c3] at H
     exact absurd H (by simp)
   ·rw [if_neg c2] at H
    have c2b0 : decide (x9_1 < (l0.length : Int)) = false := decide_eq_false c2
    clear c2
    by_cases c39 : x3_1 > 2147483647
    ·rw [if_pos c39] at H
     have c39b0 : decide (2147483647 < x3_1) = true := decide_eq_true c39
     clear c39
     obtain rfl := Option.some.inj H
     go_wp2
     repeat (go_quiet (fail); try go_wp2)
     go_ret
     exact ⟨by first | rfl | (simp [errW_none, errW_some] <;> rfl) | (simp [*, errW_none, errW_some] <;> rfl), by repeat (first | (with_reducible first | exact HB.out | apply below_alloc | apply pw_below_drewN | apply below_drew1) | exact HB.out)⟩
    ·rw [if_neg c39] at H
     have c39b0 : decide (2147483647 < x3_1) = false := decide_eq_false c39
     clear c39
     by_cases c40 : x4_1 > 2147483647
     ·rw [if_pos c40] at H
      have c40b0 : decide (2147483647 < x4_1) = true := decide_eq_true c40
      clear c40
      obtain rfl := Option.some.inj H
      go_wp2
      repeat (go_quiet (fail); try go_wp2)
      go_ret
      exact ⟨by first | rfl | (simp [errW_none, errW_some] <;> rfl) | (simp [*, errW_none, errW_some] <;> rfl), by repeat (first | (with_reducible first | exact HB.out | apply below_alloc | apply pw_below_drewN | apply below_drew1) | exact HB.out)⟩
     ·rw [if_neg c40] at H
      have c40b0 : decide (2147483647 < x4_1) = false := decide_eq_false c40
      clear c40
      obtain rfl := Option.some.inj H
      go_wp2
      repeat (go_quiet (fail); try go_wp2)
      go_ret
      exact ⟨by first | rfl | (simp [errW_none, errW_some] <;> rfl) | (simp [*, errW_none, errW_some] <;> rfl), by repeat (first | (with_reducible first | exact HB.out | apply below_alloc | apply pw_below_drewN | apply below_drew1) | exact HB.out)⟩
def axis_lengths.l0 : Nat → Int → Int → List (S121) → Int → Int → Option (Int × Int)
 | 0, _, _, _, _, _ => none
 | k + 1, x4, x5, x8, x9, x10 => if x10 < x9 then (if 0 ≤ x10 then (if x10 < (x8.length : Int) then (if ((rd_T121 x8 x10).f0) = 1 then (if ((rd_T121 x8 x10).f0) = 2 then (axis_lengths.l0 k x4 x5 x8 x9 (wrap64 (x10 + 1))) else (axis_lengths.l0 k x4 (wrap64 (x5 + ((rd_T121 x8 x10).f1))) x8 x9 (wrap64 (x10 + 1)))) else (if ((rd_T121 x8 x10).f0) = 2 then (axis_lengths.l0 k (wrap64 (x4 + ((rd_T121 x8 x10).f1))) x5 x8 x9 (wrap64 (x10 + 1))) else (axis_lengths.l0 k (wrap64 (x4 + ((rd_T121 x8 x10).f1))) (wrap64 (x5 + ((rd_T121 x8 x10).f1))) x8 x9 (wrap64 (x10 + 1))))) else (none)) else (none)) else (some (x4, x5))
def axis_lengths.f (k : Nat) (l0 : List (S121)) : Option (Int × Int) := axis_lengths.l0 k 0 0 l0 (l0.length : Int) 0
set_option maxHeartbeats 8000000 in
set_option maxRecDepth 100000 in
theorem axis_lengths.calls (k : Nat) (A0 : Option Addr) (c0 : Nat) (l0 : List (S121)) (r1 : Int) (r2 : Int) (w : World) (hr0 : Kd.C k121 w A0 l0.length l0) (hc0 : l0.length ≤ c0) (h : axis_lengths.f k l0 = some (r1, r2)) :
  Calls Try.prog 70 #[.slice A0 l0.length c0] w fun e w' => e = .returned (.tuple #[.int .i64 r1, .int .i64 r2]) ∧ Below w.heap.size w w' := by
 have hu121 := Try.underlying121
 have HR0 := Aside0.mk hr0
 have HC0 := Aside0.mk hc0
 clear hr0 hc0
 have HB := Aside0.mk (Below.refl w.heap.size w)
 have H : (axis_lengths.l0 k 0 0 l0 (l0.length : Int) 0) = some (r1, r2) := h
 clear h
 have H' := Aside0.mk H
 clear H
 go_enter Try.func70, Try.ntmps70
 go_wp2
 go_loopg [4, 5, 10] k (fun kq v4 v5 v10 w' => ∃ (x4_1 : Int) (x5_1 : Int) (x10_1 : Int), v4 = .int .i64 x4_1 ∧ v5 = .int .i64 x5_1 ∧ v10 = .int .i64 x10_1 ∧ Aside0 (axis_lengths.l0 kq x4_1 x5_1 l0 (l0.length : Int) x10_1 = some (r1, r2)) ∧ Aside0 (kq ≤ k) ∧ Aside0 (Below w.heap.size w w'))
 case atStart => exact ⟨(0), (0), (0), (by first | rfl | (simp; done) | (simp [*]; done)), (by first | rfl | (simp; done) | (simp [*]; done)), (by first | rfl | (simp; done) | (simp [*]; done)), H', ⟨Nat.le_refl _⟩, ⟨by repeat (first | (with_reducible first | exact HB.out | apply below_alloc | apply pw_below_drewN | apply below_drew1) | exact HB.out)⟩⟩
 case round =>
  clear H'
  obtain ⟨x4_1, x5_1, x10_1, rfl, rfl, rfl, HA, HK1, HB⟩ := hrel
  cases gk with
  | zero => exact absurd HA.out (by simp [axis_lengths.l0])
  | succ k1 =>
   have H := HA.out
   clear HA
   simp only [axis_lengths.l0] at H
   by_cases c2 : x10_1 < (l0.length : Int)
   ·rw [if_pos c2] at H
    have c2b0 : decide (x10_1 < (l0.length : Int)) = true := decide_eq_true c2
    clear c2
    by_cases c3 : 0 ≤ x10_1
    ·rw [if_pos c3] at H
     have c3b0 : decide (0 ≤ x10_1) = true := decide_eq_true c3
     clear c3
     by_cases c4 : x10_1 < (l0.length : Int)
     ·rw [if_pos c4] at H
      have c4b0 : decide (x10_1 < (l0.length : Int)) = true := decide_eq_true c4
      clear c4
      by_cases c5 : ((rd_T121 l0 x10_1).f0) = 1
      ·rw [if_pos c5] at H
       have c5b0 : (((rd_T121 l0 x10_1).f0) == 1) = true := beq_iff_eq.mpr c5
       have c5b1 : (((rd_T121 l0 x10_1).f0) != 1) = false := bne_eq_false_iff_eq.mpr c5
       clear c5
       by_cases c6 : ((rd_T121 l0 x10_1).f0) = 2
       ·rw [if_pos c6] at H
        have c6b0 : (((rd_T121 l0 x10_1).f0) == 2) = true := beq_iff_eq.mpr c6
        have c6b1 : (((rd_T121 l0 x10_1).f0) != 2) = false := bne_eq_false_iff_eq.mpr c6
        clear c6
        have H' := Aside0.mk H
        clear H
        have p466 : 0 ≤ (x10_1 : Int) := of_decide_eq_true (by assumption)
        have q466 : x10_1 < (l0.length : Int) := of_decide_eq_true (by assumption)
        obtain ⟨ad466, e466, hx466_0, hx466_1⟩ := at_T121 HR0.out x10_1 p466 q466
        cases e466
        replace hx466_0 := (HB.out.cell (World.block_lt_of_cell? w _ hx466_0)).trans hx466_0
        replace hx466_1 := (HB.out.cell (World.block_lt_of_cell? w _ hx466_1)).trans hx466_1
        replace p466 := eq_true p466
        replace q466 := eq_true q466
        go_wp2_with (first | ((with_reducible refine gate_dst (N := 7) rfl ?_); refine box_event ?hg (N := 7) ?hd (cs := #[.int .i64 0, .int .i64 0]) (t := 121) ?hr ?_; (case hd => rfl); (case hg => rfl); (case hr => first | (go_simp; done) | (go_simp; rfl)); intro gb467 hg w7 hbox hb; have n0_ := Aside0.mk (below_step (by with_reducible repeat first | exact HB.out | apply below_alloc | apply pw_below_drewN | apply below_drew1) hb); have n1_ := Aside0.mk (hbox); have n2_ := Aside0.mk ((by rw [hg]; exact (below_size (by with_reducible repeat first | exact HB.out | apply below_alloc | apply pw_below_drewN | apply below_drew1)) : w.heap.size ≤ gb467)); have n3_ := Aside0.mk ((by rw [hg]; exact (below_size (by with_reducible repeat first | exact HB.out | apply below_alloc | apply pw_below_drewN | apply below_drew1)) : w.heap.size ≤ gb467)); clear HB; have HB := n0_; have BK467 := n1_; have GW467 := n2_; have GE467 := n3_; clear n0_ n1_ n2_ n3_; clear hb hbox hg; have hcz8_0 : w7.cell? ⟨gb467, 0, none⟩ = some (.int .i64 0) := (blk_cell BK467.out 0).trans rfl; have hcz8_1 : w7.cell? ⟨gb467, 1, none⟩ = some (.int .i64 0) := (blk_cell BK467.out 1).trans rfl; have hfz8_0 := blk_frozen BK467.out 0; have hfz8_1 := blk_frozen BK467.out 1))
        go_roundg k1
        case measure => have := HK1.out; omega
        case rel => exact ⟨(x4_1), (x5_1), (wrap64 (x10_1 + 1)), (by first | rfl | (simp; done) | (simp [*]; done)), (by first | rfl | (simp; done) | (simp [*]; done)), (by first | rfl | (simp; done) | (simp [*]; done)), H', ⟨by have := HK1.out; omega⟩, ⟨by repeat (first | (with_reducible first | exact HB.out | apply below_alloc | apply pw_below_drewN | apply below_drew1 | refine below_set ?_ GE467.out) | exact HB.out)⟩⟩
       ·rw [if_neg c6] at H
        have c6b0 : (((rd_T121 l0 x10_1).f0) == 2) = false := beq_eq_false_iff_ne.mpr c6
        have c6b1 : (((rd_T121 l0 x10_1).f0) != 2) = true := bne_iff_ne.mpr c6
        have H' := Aside0.mk H
        clear H
        have p466 : 0 ≤ (x10_1 : Int) := of_decide_eq_true (by assumption)
        have q466 : x10_1 < (l0.length : Int) := of_decide_eq_true (by assumption)
        obtain ⟨ad466, e466, hx466_0, hx466_1⟩ := at_T121 HR0.out x10_1 p466 q466
        cases e466
        replace hx466_0 := (HB.out.cell (World.block_lt_of_cell? w _ hx466_0)).trans hx466_0
        replace hx466_1 := (HB.out.cell (World.block_lt_of_cell? w _ hx466_1)).trans hx466_1
        replace p466 := eq_true p466
        replace q466 := eq_true q466
        go_wp2_with (first | ((with_reducible refine gate_dst (N := 7) rfl ?_); refine box_event ?hg (N := 7) ?hd (cs := #[.int .i64 0, .int .i64 0]) (t := 121) ?hr ?_; (case hd => rfl); (case hg => rfl); (case hr => first | (go_simp; done) | (go_simp; rfl)); intro gb467 hg w9 hbox hb; have n0_ := Aside0.mk (below_step (by with_reducible repeat first | exact HB.out | apply below_alloc | apply pw_below_drewN | apply below_drew1) hb); have n1_ := Aside0.mk (hbox); have n2_ := Aside0.mk ((by rw [hg]; exact (below_size (by with_reducible repeat first | exact HB.out | apply below_alloc | apply pw_below_drewN | apply below_drew1)) : w.heap.size ≤ gb467)); have n3_ := Aside0.mk ((by rw [hg]; exact (below_size (by with_reducible repeat first | exact HB.out | apply below_alloc | apply pw_below_drewN | apply below_drew1)) : w.heap.size ≤ gb467)); clear HB; have HB := n0_; have BK467 := n1_; have GW467 := n2_; have GE467 := n3_; clear n0_ n1_ n2_ n3_; clear hb hbox hg; have hcz10_0 : w9.cell? ⟨gb467, 0, none⟩ = some (.int .i64 0) := (blk_cell BK467.out 0).trans rfl; have hcz10_1 : w9.cell? ⟨gb467, 1, none⟩ = some (.int .i64 0) := (blk_cell BK467.out 1).trans rfl; have hfz10_0 := blk_frozen BK467.out 0; have hfz10_1 := blk_frozen BK467.out 1))
        go_roundg k1
        case measure => have := HK1.out; omega
        case rel => exact ⟨(x4_1), (wrap64 (x5_1 + ((rd_T121 l0 x10_1).f1))), (wrap64 (x10_1 + 1)), (by first | rfl | (simp; done) | (simp [*]; done)), (by first | rfl | (simp; done) | (simp [*]; done)), (by first | rfl | (simp; done) | (simp [*]; done)), H', ⟨by have := HK1.out; omega⟩, ⟨by repeat (first | (with_reducible first | exact HB.out | apply below_alloc | apply pw_below_drewN | apply below_drew1 | refine below_set ?_ GE467.out) | exact HB.out)⟩⟩
      ·rw [if_neg c5] at H
       have c5b0 : (((rd_T121 l0 x10_1).f0) == 1) = false := beq_eq_false_iff_ne.mpr c5
       have c5b1 : (((rd_T121 l0 x10_1).f0) != 1) = true := bne_iff_ne.mpr c5
       by_cases c11 : ((rd_T121 l0 x10_1).f0) = 2
       ·rw [if_pos c11] at H
        have c11b0 : (((rd_T121 l0 x10_1).f0) == 2) = true := beq_iff_eq.mpr c11
        have c11b1 : (((rd_T121 l0 x10_1).f0) != 2) = false := bne_eq_false_iff_eq.mpr c11
        clear c11
        have H' := Aside0.mk H
        clear H
        have p466 : 0 ≤ (x10_1 : Int) := of_decide_eq_true (by assumption)
        have q466 : x10_1 < (l0.length : Int) := of_decide_eq_true (by assumption)
        obtain ⟨ad466, e466, hx466_0, hx466_1⟩ := at_T121 HR0.out x10_1 p466 q466
        cases e466
        replace hx466_0 := (HB.out.cell (World.block_lt_of_cell? w _ hx466_0)).trans hx466_0
        replace hx466_1 := (HB.out.cell (World.block_lt_of_cell? w _ hx466_1)).trans hx466_1
        replace p466 := eq_true p466
        replace q466 := eq_true q466
        go_wp2_with (first | ((with_reducible refine gate_dst (N := 7) rfl ?_); refine box_event ?hg (N := 7) ?hd (cs := #[.int .i64 0, .int .i64 0]) (t := 121) ?hr ?_; (case hd => rfl); (case hg => rfl); (case hr => first | (go_simp; done) | (go_simp; rfl)); intro gb467 hg w12 hbox hb; have n0_ := Aside0.mk (below_step (by with_reducible repeat first | exact HB.out | apply below_alloc | apply pw_below_drewN | apply below_drew1) hb); have n1_ := Aside0.mk (hbox); have n2_ := Aside0.mk ((by rw [hg]; exact (below_size (by with_reducible repeat first | exact HB.out | apply below_alloc | apply pw_below_drewN | apply below_drew1)) : w.heap.size ≤ gb467)); have n3_ := Aside0.mk ((by rw [hg]; exact (below_size (by with_reducible repeat first | exact HB.out | apply below_alloc | apply pw_below_drewN | apply below_drew1)) : w.heap.size ≤ gb467)); clear HB; have HB := n0_; have BK467 := n1_; have GW467 := n2_; have GE467 := n3_; clear n0_ n1_ n2_ n3_; clear hb hbox hg; have hcz13_0 : w12.cell? ⟨gb467, 0, none⟩ = some (.int .i64 0) := (blk_cell BK467.out 0).trans rfl; have hcz13_1 : w12.cell? ⟨gb467, 1, none⟩ = some (.int .i64 0) := (blk_cell BK467.out 1).trans rfl; have hfz13_0 := blk_frozen BK467.out 0; have hfz13_1 := blk_frozen BK467.out 1))
        go_roundg k1
        case measure => have := HK1.out; omega
        case rel => exact ⟨(wrap64 (x4_1 + ((rd_T121 l0 x10_1).f1))), (x5_1), (wrap64 (x10_1 + 1)), (by first | rfl | (simp; done) | (simp [*]; done)), (by first | rfl | (simp; done) | (simp [*]; done)), (by first | rfl | (simp; done) | (simp [*]; done)), H', ⟨by have := HK1.out; omega⟩, ⟨by repeat (first | (with_reducible first | exact HB.out | apply below_alloc | apply pw_below_drewN | apply below_drew1 | refine below_set ?_ GE467.out) | exact HB.out)⟩⟩
       ·rw [if_neg c11] at H
        have c11b0 : (((rd_T121 l0 x10_1).f0) == 2) = false := beq_eq_false_iff_ne.mpr c11
        have c11b1 : (((rd_T121 l0 x10_1).f0) != 2) = true := bne_iff_ne.mpr c11
        have H' := Aside0.mk H
        clear H
        have p466 : 0 ≤ (x10_1 : Int) := of_decide_eq_true (by assumption)
        have q466 : x10_1 < (l0.length : Int) := of_decide_eq_true (by assumption)
        obtain ⟨ad466, e466, hx466_0, hx466_1⟩ := at_T121 HR0.out x10_1 p466 q466
        cases e466
        replace hx466_0 := (HB.out.cell (World.block_lt_of_cell? w _ hx466_0)).trans hx466_0
        replace hx466_1 := (HB.out.cell (World.block_lt_of_cell? w _ hx466_1)).trans hx466_1
        replace p466 := eq_true p466
        replace q466 := eq_true q466
        go_wp2_with (first | ((with_reducible refine gate_dst (N := 7) rfl ?_); refine box_event ?hg (N := 7) ?hd (cs := #[.int .i64 0, .int .i64 0]) (t := 121) ?hr ?_; (case hd => rfl); (case hg => rfl); (case hr => first | (go_simp; done) | (go_simp; rfl)); intro gb467 hg w14 hbox hb; have n0_ := Aside0.mk (below_step (by with_reducible repeat first | exact HB.out | apply below_alloc | apply pw_below_drewN | apply below_drew1) hb); have n1_ := Aside0.mk (hbox); have n2_ := Aside0.mk ((by rw [hg]; exact (below_size (by with_reducible repeat first | exact HB.out | apply below_alloc | apply pw_below_drewN | apply below_drew1)) : w.heap.size ≤ gb467)); have n3_ := Aside0.mk ((by rw [hg]; exact (below_size (by with_reducible repeat first | exact HB.out | apply below_alloc | apply pw_below_drewN | apply below_drew1)) : w.heap.size ≤ gb467)); clear HB; have HB := n0_; have BK467 := n1_; have GW467 := n2_; have GE467 := n3_; clear n0_ n1_ n2_ n3_; clear hb hbox hg; have hcz15_0 : w14.cell? ⟨gb467, 0, none⟩ = some (.int .i64 0) := (blk_cell BK467.out 0).trans rfl; have hcz15_1 : w14.cell? ⟨gb467, 1, none⟩ = some (.int .i64 0) := (blk_cell BK467.out 1).trans rfl; have hfz15_0 := blk_frozen BK467.out 0; have hfz15_1 := blk_frozen BK467.out 1))
        go_roundg k1
        case measure => have := HK1.out; omega
        case rel => exact ⟨(wrap64 (x4_1 + ((rd_T121 l0 x10_1).f1))), (wrap64 (x5_1 + ((rd_T121 l0 x10_1).f1))), (wrap64 (x10_1 + 1)), (by first | rfl | (simp; done) | (simp [*]; done)), (by first | rfl | (simp; done) | (simp [*]; done)), (by first | rfl | (simp; done) | (simp [*]; done)), H', ⟨by have := HK1.out; omega⟩, ⟨by repeat (first | (with_reducible first | exact HB.out | apply below_alloc | apply pw_below_drewN | apply below_drew1 | refine below_set ?_ GE467.out) | exact HB.out)⟩⟩
     ·rw [if_neg c4] at H
      exact absurd H (by simp)
    ·rw [if_neg c3] at H
     exact absurd H (by simp)
   ·rw [if_neg c2] at H
    have c2b0 : decide (x10_1 < (l0.length : Int)) = false := decide_eq_false c2
    clear c2
    simp only [Option.some.injEq, Prod.mk.injEq] at H
    obtain ⟨rfl, rfl⟩ := H
    go_wp2
    go_ret2
    exact ⟨by first | rfl | (simp [errW_none, errW_some] <;> rfl) | (simp [*, errW_none, errW_some] <;> rfl), by repeat (first | (with_reducible first | exact HB.out | apply below_alloc | apply pw_below_drewN | apply below_drew1) | exact HB.out)⟩
end Go.Proofs.Ytlcodfjlbhjkbaa.PDelta
end
section
namespace Go.Proofs.Ytlcodfjlbhjkbaa.PDelta.Ax
open Go.RowKit Go.Proofs.YtlcodfjlbhjkbaaW.PrintWords Go.Proofs.YtlcodfjlbhjkbaaW.PrintLast Go.Proofs.YtlcodfjlbhjkbaaW.PrintMore
section
variable {w0 wI w w1 : World} {g : Nat} {vI v v1 : Value} {out out' : List S121} {add cut : Int}
end
structure WS where
 out : List S121
 add : Int
 cut : Int
end Go.Proofs.Ytlcodfjlbhjkbaa.PDelta.Ax
end
section
namespace Go.Proofs.Ytlcodfjlbhjkbaa.PDelta.Ax
open Go.RowKit Go.Proofs.YtlcodfjlbhjkbaaW.PrintWords Go.Proofs.YtlcodfjlbhjkbaaW.PrintLast Go.Proofs.YtlcodfjlbhjkbaaW.PrintMore
open Go.RowKit Go.Proofs.YtlcodfjlbhjkbaaW.PrintWords Go.Proofs.YtlcodfjlbhjkbaaW.PrintLast Go.Proofs.YtlcodfjlbhjkbaaW.PrintMore
end Go.Proofs.Ytlcodfjlbhjkbaa.PDelta.Ax
end
section
namespace Go.Proofs.Ytlcodfjlbhjkbaa.PDelta.Ax
open Go.RowKit Go.Proofs.YtlcodfjlbhjkbaaW.PrintWords Go.Proofs.YtlcodfjlbhjkbaaW.PrintLast Go.Proofs.YtlcodfjlbhjkbaaW.PrintMore
section
variable {w0 w w' : World} {gw gp gq : Nat} {a b : List S121} {ua ub : Int} {s : WS}
end
def mn (x y : Int) : Int := if y < x then y else x
end Go.Proofs.Ytlcodfjlbhjkbaa.PDelta.Ax
end
section
namespace Go.Proofs.Ytlcodfjlbhjkbaa.PDelta.Ax
open Go.RowKit Go.Proofs.YtlcodfjlbhjkbaaW.PrintWords Go.Proofs.YtlcodfjlbhjkbaaW.PrintLast Go.Proofs.YtlcodfjlbhjkbaaW.PrintMore
attribute [local go_sem] max2_int min2_int max_two min_two
end Go.Proofs.Ytlcodfjlbhjkbaa.PDelta.Ax
end
section
namespace Go.Proofs.Ytlcodfjlbhjkbaa.PDelta.Ax
open Go.RowKit Go.Proofs.YtlcodfjlbhjkbaaW.PrintWords Go.Proofs.YtlcodfjlbhjkbaaW.PrintLast Go.Proofs.YtlcodfjlbhjkbaaW.PrintMore
end Go.Proofs.Ytlcodfjlbhjkbaa.PDelta.Ax
end
section
namespace Go.Proofs.Ytlcodfjlbhjkbaa.PDelta
open Go.RowKit Go.Proofs.YtlcodfjlbhjkbaaW.PrintWords Go.Proofs.YtlcodfjlbhjkbaaW.PrintLast Go.Proofs.YtlcodfjlbhjkbaaW.PrintMore
def span_Minus.f (k : Nat) (l0 l1 : List S44) : Option (List S44 × Int) := Sp.span_Minus.f k l0 l1
theorem span_Minus.mono : ∀ a0 a1 k, LeO (span_Minus.f k a0 a1) (span_Minus.f (k + 1) a0 a1) := Sp.span_Minus.mono
theorem span_Minus.calls (k : Nat) (A0 : Option Addr) (c0 : Nat) (l0 : List (S44)) (A1 : Option Addr) (c1 : Nat) (l1 : List (S44)) (r1 : List (S44)) (r2 : Int) (w : World) (hr0 : Kd.C k44 w A0 l0.length l0) (hc0 : l0.length ≤ c0) (hr1 : Kd.C k44 w A1 l1.length l1) (hc1 : l1.length ≤ c1) (h : span_Minus.f k l0 l1 = some (r1, r2)) :
  Calls Try.prog 52 #[.slice A0 l0.length c0, .slice A1 l1.length c1] w fun e w' => ∃ v0_ : Value, e = .returned (.tuple #[v0_, .int .i64 r2]) ∧ Kd.R k44 44 w' w.heap.size (fun _ => True) v0_ r1 ∧ Below w.heap.size w w' := Sp.span_Minus.calls k A0 c0 l0 A1 c1 l1 r1 r2 w hr0 hc0 hr1 hc1 h
end Go.Proofs.Ytlcodfjlbhjkbaa.PDelta
end
section
namespace Go.Proofs.Ytlcodfjlbhjkbaa.PDelta
open Go.RowKit Go.Proofs.YtlcodfjlbhjkbaaW.PrintWords Go.Proofs.YtlcodfjlbhjkbaaW.PrintLast Go.Proofs.YtlcodfjlbhjkbaaW.PrintMore
attribute [local go_sem] max2_int min2_int max_two min_two max_three min_three max_four min_four
attribute [local go_sem high] Go.Proofs.Ytlcodfjlbhjkbaa.Ord.leq_str Go.Proofs.Ytlcodfjlbhjkbaa.Ord.gtr_str Go.Proofs.Ytlcodfjlbhjkbaa.Ord.geq_str
noncomputable section
attribute [local go_sem high] eqA44
def chancerykeep1_spans.f (k : Nat)  : Option (Bool) := (span_Minus.f k (([(⟨0, 5⟩ : S44)] : List (S44))) (([(⟨1, 2⟩ : S44)] : List (S44)))).bind fun bt220 => (if bt220.2 = 0 then (if (bt220.1.length : Int) = 2 then (if 1 < (bt220.1.length : Int) then (some (((rd_T44 bt220.1 1).f0) == 2 && (((rd_T44 bt220.1 1).f1) == 5))) else (none)) else (some false)) else (some false))
theorem chancerykeep1_spans.mono : ∀ k, LeO (chancerykeep1_spans.f k ) (chancerykeep1_spans.f (k + 1) ) := by
 intro  k
 unfold chancerykeep1_spans.f
 repeat' first
   | (with_reducible exact span_Minus.mono _ _ _)
   | (with_reducible exact LeO.refl _)
   | (with_reducible exact LeO.none _)
   | (with_reducible refine LeO.ite ?_ ?_)
   | (with_reducible refine LeO.bind ?_ (fun _ => ?_))
   | exact span_Minus.mono _ _ _
   | exact LeO.none _
   | refine LeO.ite ?_ ?_
   | refine LeO.bind ?_ (fun _ => ?_)
set_option maxHeartbeats 8000000 in
set_option maxRecDepth 100000 in
theorem chancerykeep1_spans.calls (k : Nat)  (r : Bool) (w : World) (h : chancerykeep1_spans.f k  = some r) :
  Calls Try.prog 19 #[] w fun e w' => e = .returned (.bool r) ∧ Below w.heap.size w w' := by
 have hu44 := Try.underlying44
 have HB := Aside0.mk (Below.refl w.heap.size w)
 have H : ((span_Minus.f k (([(⟨0, 5⟩ : S44)] : List (S44))) (([(⟨1, 2⟩ : S44)] : List (S44)))).bind fun bt220 => (if bt220.2 = 0 then (if (bt220.1.length : Int) = 2 then (if 1 < (bt220.1.length : Int) then (some (((rd_T44 bt220.1 1).f0) == 2 && (((rd_T44 bt220.1 1).f1) == 5))) else (none)) else (some false)) else (some false))) = some r := h
 clear h
 obtain ⟨y214, hy214⟩ : ∃ y_ : List (S44), y_ = (([(⟨0, 5⟩ : S44)] : List (S44))) := ⟨_, rfl⟩
 replace H : ((span_Minus.f k y214 (([(⟨1, 2⟩ : S44)] : List (S44)))).bind fun bt220 => (if bt220.2 = 0 then (if (bt220.1.length : Int) = 2 then (if 1 < (bt220.1.length : Int) then (some (((rd_T44 bt220.1 1).f0) == 2 && (((rd_T44 bt220.1 1).f1) == 5))) else (none)) else (some false)) else (some false))) = some r := by first | (rw [hy214]; with_reducible exact H) | (have H2_ := (Option.bind_some _ _).symm.trans H; rw [hy214]; with_reducible exact H2_) | (have H2_ := (Option.bind_some _ _).symm.trans H; with_reducible exact H2_) | with_reducible exact H | (rw [hy214]; exact H) | exact H
 have Ny214 := Aside0.mk hy214
 clear hy214
 obtain ⟨y217, hy217⟩ : ∃ y_ : List (S44), y_ = (([(⟨1, 2⟩ : S44)] : List (S44))) := ⟨_, rfl⟩
 replace H : ((span_Minus.f k y214 y217).bind fun bt220 => (if bt220.2 = 0 then (if (bt220.1.length : Int) = 2 then (if 1 < (bt220.1.length : Int) then (some (((rd_T44 bt220.1 1).f0) == 2 && (((rd_T44 bt220.1 1).f1) == 5))) else (none)) else (some false)) else (some false))) = some r := by first | (rw [hy217]; with_reducible exact H) | (have H2_ := (Option.bind_some _ _).symm.trans H; rw [hy217]; with_reducible exact H2_) | (have H2_ := (Option.bind_some _ _).symm.trans H; with_reducible exact H2_) | with_reducible exact H | (rw [hy217]; exact H) | exact H
 have Ny217 := Aside0.mk hy217
 clear hy217
 replace H := Option.bind_eq_some_iff.mp H
 obtain ⟨⟨t220, t221⟩, A10, H⟩ := H
 replace H : (if t221 = 0 then (if (t220.length : Int) = 2 then (if 1 < (t220.length : Int) then (some (((rd_T44 t220 1).f0) == 2 && (((rd_T44 t220 1).f1) == 5))) else (none)) else (some false)) else (some false)) = some r := H
 have A1 := Aside0.mk A10
 clear A10
 by_cases c2 : t221 = 0
 ·rw [if_pos c2] at H
  have c2b0 : (t221 == 0) = true := beq_iff_eq.mpr c2
  have c2b1 : (t221 != 0) = false := bne_eq_false_iff_eq.mpr c2
  clear c2
  by_cases c3 : (t220.length : Int) = 2
  ·rw [if_pos c3] at H
   have c3b0 : ((t220.length : Int) == 2) = true := beq_iff_eq.mpr c3
   have c3b1 : ((t220.length : Int) != 2) = false := bne_eq_false_iff_eq.mpr c3
   clear c3
   by_cases c4 : 1 < (t220.length : Int)
   ·rw [if_pos c4] at H
    have c4b0 : decide (1 < (t220.length : Int)) = true := decide_eq_true c4
    have c4b1 : decide (1 < t220.length) = true := decide_eq_true (by omega)
    clear c4
    obtain rfl := Option.some.inj H
    go_enter Try.func19, Try.ntmps19
    go_wp2_with (first | ((with_reducible refine gate_dst (N := 5) rfl ?_); (try (refine gate_guard (by rfl) ?_; dsimp only)); refine Kd.R_lit k44 _ 44 ?hg (N := 5) ?hd (xs := ([(⟨0, 5⟩ : S44)] : List (S44))) (inner := [.int .i64 0, .int .i64 5]) (ok := fun _ => True) (okp := fun _ => True) ?hr ?hp (fun _ hk => hk) trivial (Below.refl _ _) (Nat.le_refl _) (by simp) ?_; (case hd => rfl); (case hg => rfl); (case hr => first | (go_simp; done) | (go_simp; rfl)); (case hp => exact (Reps.c2 (show Kd.M k44 _ _ _ (⟨0, 5⟩ : S44) [.int .i64 0, .int .i64 5] from (k44_mkM _ _ _ (⟨0, 5⟩ : S44) )) (Reps.none _ _))); intro v215 w5 ho6 hb hg_ hnew_; clear hg_ hnew_; (first | rw [← Ny214.out] at ho6 | (simp only [Int.reduceToNat] at ho6; rw [← Ny214.out] at ho6)); have n0_ := Aside0.mk (Kd.R_lower ho6 (below_size (by with_reducible repeat first | exact HB.out | apply below_alloc | apply pw_below_drewN | apply below_drew1))); have n1_ := Aside0.mk (below_step (by with_reducible repeat first | exact HB.out | apply below_alloc | apply pw_below_drewN | apply below_drew1) hb); clear HB; have HO216 := n0_; have HB := n1_; clear n0_ n1_; clear hb ho6) | ((with_reducible refine gate_dst (N := 7) rfl ?_); (try (refine gate_guard (by rfl) ?_; dsimp only)); refine Kd.R_lit k44 _ 44 ?hg (N := 7) ?hd (xs := ([(⟨1, 2⟩ : S44)] : List (S44))) (inner := [.int .i64 1, .int .i64 2]) (ok := fun _ => True) (okp := fun _ => True) ?hr ?hp (fun _ hk => hk) trivial (Below.refl _ _) (Nat.le_refl _) (by simp) ?_; (case hd => rfl); (case hg => rfl); (case hr => first | (go_simp; done) | (go_simp; rfl)); (case hp => exact (Reps.c2 (show Kd.M k44 _ _ _ (⟨1, 2⟩ : S44) [.int .i64 1, .int .i64 2] from (k44_mkM _ _ _ (⟨1, 2⟩ : S44) )) (Reps.none _ _))); intro v218 w7 ho8 hb hg_ hnew_; clear hg_ hnew_; (first | rw [← Ny217.out] at ho8 | (simp only [Int.reduceToNat] at ho8; rw [← Ny217.out] at ho8)); have n0_ := Aside0.mk (Kd.R_elder' (by (with_reducible repeat (first | apply Kd.R_alloc | apply Kd.R_drewN | apply Kd.R_drew)); exact HO216.out) (Kd.R_base ho8) hb); have n1_ := Aside0.mk (Kd.R_lower (Kd.R_new' ho8 (Kd.R_lt (by (with_reducible repeat (first | apply Kd.R_alloc | apply Kd.R_drewN | apply Kd.R_drew)); exact HO216.out))) (below_size (by with_reducible repeat first | exact HB.out | apply below_alloc | apply pw_below_drewN | apply below_drew1))); have n2_ := Aside0.mk (below_step (by with_reducible repeat first | exact HB.out | apply below_alloc | apply pw_below_drewN | apply below_drew1) hb); clear HO216; clear HB; have HO216 := n0_; have HO219 := n1_; have HB := n2_; clear n0_ n1_ n2_; clear hb ho8; obtain ⟨Ao9, co9, eo9⟩ := Kd.R_slice HO216.out; subst eo9; obtain ⟨Ao10, co10, eo10⟩ := Kd.R_slice HO219.out; subst eo10) | ((with_reducible refine gate_callee (f := 52) rfl ?_); refine goesL_ (some 8) rfl rfl Try.func52 (by kernel_rfl) rfl #[.slice Ao9 y214.length co9, .slice Ao10 y217.length co10] rfl (by (try simp only [List.map_toArray, List.map_cons, List.map_nil]); first | done | rfl | (simp only [List.length_drop, List.length_take]; rfl)) ?_; (with_reducible refine (span_Minus.calls k _ _ y214 _ _ y217 t220 t221 _ ?side1 ?side2 ?side3 ?side4 A1.out).mono ?_); (case side1 => repeat (first | exact (Kd.R_reads' HO216.out).2.2 | (with_reducible refine Kd.C_alloc ?_ _) | (with_reducible refine Kd.C_drewN ?_ _) | (with_reducible refine Kd.C_drew ?_))); (case side2 => exact (Kd.R_reads' HO216.out).2.1); (case side3 => repeat (first | exact (Kd.R_reads' HO219.out).2.2 | (with_reducible refine Kd.C_alloc ?_ _) | (with_reducible refine Kd.C_drewN ?_ _) | (with_reducible refine Kd.C_drew ?_))); (case side4 => exact (Kd.R_reads' HO219.out).2.1); rintro e w11 ⟨v222, rfl, ho0, hb⟩; refine ⟨_, rfl, ?_⟩; have n0_ := Aside0.mk (Kd.R_elder' (by (with_reducible repeat (first | apply Kd.R_alloc | apply Kd.R_drewN | apply Kd.R_drew)); exact HO216.out) (Kd.R_base ho0) hb); have n1_ := Aside0.mk (Kd.R_elder' (by (with_reducible repeat (first | apply Kd.R_alloc | apply Kd.R_drewN | apply Kd.R_drew)); exact HO219.out) (Kd.R_base ho0) hb); have n2_ := Aside0.mk (Kd.R_lower (Kd.R_new' (Kd.R_new' ho0 (Kd.R_lt (by (with_reducible repeat (first | apply Kd.R_alloc | apply Kd.R_drewN | apply Kd.R_drew)); exact HO216.out))) (Kd.R_lt (by (with_reducible repeat (first | apply Kd.R_alloc | apply Kd.R_drewN | apply Kd.R_drew)); exact HO219.out))) (below_size (by with_reducible repeat first | exact HB.out | apply below_alloc | apply pw_below_drewN | apply below_drew1))); have n3_ := Aside0.mk (below_step (by with_reducible repeat first | exact HB.out | apply below_alloc | apply pw_below_drewN | apply below_drew1) hb); clear HO216; clear HO219; clear HB; have HO216 := n0_; have HO219 := n1_; have HO223 := n2_; have HB := n3_; clear n0_ n1_ n2_ n3_; (try clear hb); (try clear hb2); (try clear hk); (try clear hi); (try clear ho0); obtain ⟨Ao12, co12, eo12⟩ := Kd.R_slice HO223.out; subst eo12; have p224 : 0 ≤ (1 : Int) := (by omega); have q224 : 1 < (t220.length : Int) := of_decide_eq_true (by assumption); obtain ⟨ad224, e224, hx224_0, hx224_1⟩ := at_T44 (Kd.R_reads' HO223.out).2.2 1 p224 q224; cases e224; (try simp only [show (1 : Int).toNat = 1 from rfl, Nat.reduceMul, Nat.reduceEqDiff, Go.Addr.add, ↓reduceIte] at hx224_0); (try simp only [show (1 : Int).toNat = 1 from rfl, Nat.reduceMul, Nat.reduceEqDiff, Go.Addr.add, ↓reduceIte] at hx224_1); have qi224 : (1 < t220.length) = True := eq_true (by omega); (try rw [show ((1 : Int)).toNat = 1 from rfl] at hx224_0); (try rw [show 1 * 2 = 2 from rfl] at hx224_0); (try rw [show ((1 : Int)).toNat = 1 from rfl] at hx224_1); (try rw [show 1 * 2 = 2 from rfl] at hx224_1); replace p224 := eq_true p224; replace q224 := eq_true q224))
    go_ret
    exact ⟨by first | rfl | (simp [errW_none, errW_some] <;> rfl) | (simp [*, errW_none, errW_some] <;> rfl), by repeat (first | (with_reducible first | exact HB.out | apply below_alloc | apply pw_below_drewN | apply below_drew1) | exact HB.out)⟩
   ·rw [if_neg c4] at H
    exact absurd H (by simp)
  ·rw [if_neg c3] at H
   have c3b0 : ((t220.length : Int) == 2) = false := beq_eq_false_iff_ne.mpr c3
   have c3b1 : ((t220.length : Int) != 2) = true := bne_iff_ne.mpr c3
   obtain rfl := Option.some.inj H
   go_enter Try.func19, Try.ntmps19
   go_wp2_with (first | ((with_reducible refine gate_dst (N := 5) rfl ?_); (try (refine gate_guard (by rfl) ?_; dsimp only)); refine Kd.R_lit k44 _ 44 ?hg (N := 5) ?hd (xs := ([(⟨0, 5⟩ : S44)] : List (S44))) (inner := [.int .i64 0, .int .i64 5]) (ok := fun _ => True) (okp := fun _ => True) ?hr ?hp (fun _ hk => hk) trivial (Below.refl _ _) (Nat.le_refl _) (by simp) ?_; (case hd => rfl); (case hg => rfl); (case hr => first | (go_simp; done) | (go_simp; rfl)); (case hp => exact (Reps.c2 (show Kd.M k44 _ _ _ (⟨0, 5⟩ : S44) [.int .i64 0, .int .i64 5] from (k44_mkM _ _ _ (⟨0, 5⟩ : S44) )) (Reps.none _ _))); intro v215 w13 ho14 hb hg_ hnew_; clear hg_ hnew_; (first | rw [← Ny214.out] at ho14 | (simp only [Int.reduceToNat] at ho14; rw [← Ny214.out] at ho14)); have n0_ := Aside0.mk (Kd.R_lower ho14 (below_size (by with_reducible repeat first | exact HB.out | apply below_alloc | apply pw_below_drewN | apply below_drew1))); have n1_ := Aside0.mk (below_step (by with_reducible repeat first | exact HB.out | apply below_alloc | apply pw_below_drewN | apply below_drew1) hb); clear HB; have HO216 := n0_; have HB := n1_; clear n0_ n1_; clear hb ho14) | ((with_reducible refine gate_dst (N := 7) rfl ?_); (try (refine gate_guard (by rfl) ?_; dsimp only)); refine Kd.R_lit k44 _ 44 ?hg (N := 7) ?hd (xs := ([(⟨1, 2⟩ : S44)] : List (S44))) (inner := [.int .i64 1, .int .i64 2]) (ok := fun _ => True) (okp := fun _ => True) ?hr ?hp (fun _ hk => hk) trivial (Below.refl _ _) (Nat.le_refl _) (by simp) ?_; (case hd => rfl); (case hg => rfl); (case hr => first | (go_simp; done) | (go_simp; rfl)); (case hp => exact (Reps.c2 (show Kd.M k44 _ _ _ (⟨1, 2⟩ : S44) [.int .i64 1, .int .i64 2] from (k44_mkM _ _ _ (⟨1, 2⟩ : S44) )) (Reps.none _ _))); intro v218 w15 ho16 hb hg_ hnew_; clear hg_ hnew_; (first | rw [← Ny217.out] at ho16 | (simp only [Int.reduceToNat] at ho16; rw [← Ny217.out] at ho16)); have n0_ := Aside0.mk (Kd.R_elder' (by (with_reducible repeat (first | apply Kd.R_alloc | apply Kd.R_drewN | apply Kd.R_drew)); exact HO216.out) (Kd.R_base ho16) hb); have n1_ := Aside0.mk (Kd.R_lower (Kd.R_new' ho16 (Kd.R_lt (by (with_reducible repeat (first | apply Kd.R_alloc | apply Kd.R_drewN | apply Kd.R_drew)); exact HO216.out))) (below_size (by with_reducible repeat first | exact HB.out | apply below_alloc | apply pw_below_drewN | apply below_drew1))); have n2_ := Aside0.mk (below_step (by with_reducible repeat first | exact HB.out | apply below_alloc | apply pw_below_drewN | apply below_drew1) hb); clear HO216; clear HB; have HO216 := n0_; have HO219 := n1_; have HB := n2_; clear n0_ n1_ n2_; clear hb ho16; obtain ⟨Ao17, co17, eo17⟩ := Kd.R_slice HO216.out; subst eo17; obtain ⟨Ao18, co18, eo18⟩ := Kd.R_slice HO219.out; subst eo18) | ((with_reducible refine gate_callee (f := 52) rfl ?_); refine goesL_ (some 8) rfl rfl Try.func52 (by kernel_rfl) rfl #[.slice Ao17 y214.length co17, .slice Ao18 y217.length co18] rfl (by (try simp only [List.map_toArray, List.map_cons, List.map_nil]); first | done | rfl | (simp only [List.length_drop, List.length_take]; rfl)) ?_; (with_reducible refine (span_Minus.calls k _ _ y214 _ _ y217 t220 t221 _ ?side1 ?side2 ?side3 ?side4 A1.out).mono ?_); (case side1 => repeat (first | exact (Kd.R_reads' HO216.out).2.2 | (with_reducible refine Kd.C_alloc ?_ _) | (with_reducible refine Kd.C_drewN ?_ _) | (with_reducible refine Kd.C_drew ?_))); (case side2 => exact (Kd.R_reads' HO216.out).2.1); (case side3 => repeat (first | exact (Kd.R_reads' HO219.out).2.2 | (with_reducible refine Kd.C_alloc ?_ _) | (with_reducible refine Kd.C_drewN ?_ _) | (with_reducible refine Kd.C_drew ?_))); (case side4 => exact (Kd.R_reads' HO219.out).2.1); rintro e w19 ⟨v222, rfl, ho0, hb⟩; refine ⟨_, rfl, ?_⟩; have n0_ := Aside0.mk (Kd.R_elder' (by (with_reducible repeat (first | apply Kd.R_alloc | apply Kd.R_drewN | apply Kd.R_drew)); exact HO216.out) (Kd.R_base ho0) hb); have n1_ := Aside0.mk (Kd.R_elder' (by (with_reducible repeat (first | apply Kd.R_alloc | apply Kd.R_drewN | apply Kd.R_drew)); exact HO219.out) (Kd.R_base ho0) hb); have n2_ := Aside0.mk (Kd.R_lower (Kd.R_new' (Kd.R_new' ho0 (Kd.R_lt (by (with_reducible repeat (first | apply Kd.R_alloc | apply Kd.R_drewN | apply Kd.R_drew)); exact HO216.out))) (Kd.R_lt (by (with_reducible repeat (first | apply Kd.R_alloc | apply Kd.R_drewN | apply Kd.R_drew)); exact HO219.out))) (below_size (by with_reducible repeat first | exact HB.out | apply below_alloc | apply pw_below_drewN | apply below_drew1))); have n3_ := Aside0.mk (below_step (by with_reducible repeat first | exact HB.out | apply below_alloc | apply pw_below_drewN | apply below_drew1) hb); clear HO216; clear HO219; clear HB; have HO216 := n0_; have HO219 := n1_; have HO223 := n2_; have HB := n3_; clear n0_ n1_ n2_ n3_; (try clear hb); (try clear hb2); (try clear hk); (try clear hi); (try clear ho0); obtain ⟨Ao20, co20, eo20⟩ := Kd.R_slice HO223.out; subst eo20))
   go_ret
   exact ⟨by first | rfl | (simp [errW_none, errW_some] <;> rfl) | (simp [*, errW_none, errW_some] <;> rfl), by repeat (first | (with_reducible first | exact HB.out | apply below_alloc | apply pw_below_drewN | apply below_drew1) | exact HB.out)⟩
 ·rw [if_neg c2] at H
  have c2b0 : (t221 == 0) = false := beq_eq_false_iff_ne.mpr c2
  have c2b1 : (t221 != 0) = true := bne_iff_ne.mpr c2
  obtain rfl := Option.some.inj H
  go_enter Try.func19, Try.ntmps19
  go_wp2_with (first | ((with_reducible refine gate_dst (N := 5) rfl ?_); (try (refine gate_guard (by rfl) ?_; dsimp only)); refine Kd.R_lit k44 _ 44 ?hg (N := 5) ?hd (xs := ([(⟨0, 5⟩ : S44)] : List (S44))) (inner := [.int .i64 0, .int .i64 5]) (ok := fun _ => True) (okp := fun _ => True) ?hr ?hp (fun _ hk => hk) trivial (Below.refl _ _) (Nat.le_refl _) (by simp) ?_; (case hd => rfl); (case hg => rfl); (case hr => first | (go_simp; done) | (go_simp; rfl)); (case hp => exact (Reps.c2 (show Kd.M k44 _ _ _ (⟨0, 5⟩ : S44) [.int .i64 0, .int .i64 5] from (k44_mkM _ _ _ (⟨0, 5⟩ : S44) )) (Reps.none _ _))); intro v215 w21 ho22 hb hg_ hnew_; clear hg_ hnew_; (first | rw [← Ny214.out] at ho22 | (simp only [Int.reduceToNat] at ho22; rw [← Ny214.out] at ho22)); have n0_ := Aside0.mk (Kd.R_lower ho22 (below_size (by with_reducible repeat first | exact HB.out | apply below_alloc | apply pw_below_drewN | apply below_drew1))); have n1_ := Aside0.mk (below_step (by with_reducible repeat first | exact HB.out | apply below_alloc | apply pw_below_drewN | apply below_drew1) hb); clear HB; have HO216 := n0_; have HB := n1_; clear n0_ n1_; clear hb ho22) | ((with_reducible refine gate_dst (N := 7) rfl ?_); (try (refine gate_guard (by rfl) ?_; dsimp only)); refine Kd.R_lit k44 _ 44 ?hg (N := 7) ?hd (xs := ([(⟨1, 2⟩ : S44)] : List (S44))) (inner := [.int .i64 1, .int .i64 2]) (ok := fun _ => True) (okp := fun _ => True) ?hr ?hp (fun _ hk => hk) trivial (Below.refl _ _) (Nat.le_refl _) (by simp) ?_; (case hd => rfl); (case hg => rfl); (case hr => first | (go_simp; done) | (go_simp; rfl)); (case hp => exact (Reps.c2 (show Kd.M k44 _ _ _ (⟨1, 2⟩ : S44) [.int .i64 1, .int .i64 2] from (k44_mkM _ _ _ (⟨1, 2⟩ : S44) )) (Reps.none _ _))); intro v218 w23 ho24 hb hg_ hnew_; clear hg_ hnew_; (first | rw [← Ny217.out] at ho24 | (simp only [Int.reduceToNat] at ho24; rw [← Ny217.out] at ho24)); have n0_ := Aside0.mk (Kd.R_elder' (by (with_reducible repeat (first | apply Kd.R_alloc | apply Kd.R_drewN | apply Kd.R_drew)); exact HO216.out) (Kd.R_base ho24) hb); have n1_ := Aside0.mk (Kd.R_lower (Kd.R_new' ho24 (Kd.R_lt (by (with_reducible repeat (first | apply Kd.R_alloc | apply Kd.R_drewN | apply Kd.R_drew)); exact HO216.out))) (below_size (by with_reducible repeat first | exact HB.out | apply below_alloc | apply pw_below_drewN | apply below_drew1))); have n2_ := Aside0.mk (below_step (by with_reducible repeat first | exact HB.out | apply below_alloc | apply pw_below_drewN | apply below_drew1) hb); clear HO216; clear HB; have HO216 := n0_; have HO219 := n1_; have HB := n2_; clear n0_ n1_ n2_; clear hb ho24; obtain ⟨Ao25, co25, eo25⟩ := Kd.R_slice HO216.out; subst eo25; obtain ⟨Ao26, co26, eo26⟩ := Kd.R_slice HO219.out; subst eo26) | ((with_reducible refine gate_callee (f := 52) rfl ?_); refine goesL_ (some 8) rfl rfl Try.func52 (by kernel_rfl) rfl #[.slice Ao25 y214.length co25, .slice Ao26 y217.length co26] rfl (by (try simp only [List.map_toArray, List.map_cons, List.map_nil]); first | done | rfl | (simp only [List.length_drop, List.length_take]; rfl)) ?_; (with_reducible refine (span_Minus.calls k _ _ y214 _ _ y217 t220 t221 _ ?side1 ?side2 ?side3 ?side4 A1.out).mono ?_); (case side1 => repeat (first | exact (Kd.R_reads' HO216.out).2.2 | (with_reducible refine Kd.C_alloc ?_ _) | (with_reducible refine Kd.C_drewN ?_ _) | (with_reducible refine Kd.C_drew ?_))); (case side2 => exact (Kd.R_reads' HO216.out).2.1); (case side3 => repeat (first | exact (Kd.R_reads' HO219.out).2.2 | (with_reducible refine Kd.C_alloc ?_ _) | (with_reducible refine Kd.C_drewN ?_ _) | (with_reducible refine Kd.C_drew ?_))); (case side4 => exact (Kd.R_reads' HO219.out).2.1); rintro e w27 ⟨v222, rfl, ho0, hb⟩; refine ⟨_, rfl, ?_⟩; have n0_ := Aside0.mk (Kd.R_elder' (by (with_reducible repeat (first | apply Kd.R_alloc | apply Kd.R_drewN | apply Kd.R_drew)); exact HO216.out) (Kd.R_base ho0) hb); have n1_ := Aside0.mk (Kd.R_elder' (by (with_reducible repeat (first | apply Kd.R_alloc | apply Kd.R_drewN | apply Kd.R_drew)); exact HO219.out) (Kd.R_base ho0) hb); have n2_ := Aside0.mk (Kd.R_lower (Kd.R_new' (Kd.R_new' ho0 (Kd.R_lt (by (with_reducible repeat (first | apply Kd.R_alloc | apply Kd.R_drewN | apply Kd.R_drew)); exact HO216.out))) (Kd.R_lt (by (with_reducible repeat (first | apply Kd.R_alloc | apply Kd.R_drewN | apply Kd.R_drew)); exact HO219.out))) (below_size (by with_reducible repeat first | exact HB.out | apply below_alloc | apply pw_below_drewN | apply below_drew1))); have n3_ := Aside0.mk (below_step (by with_reducible repeat first | exact HB.out | apply below_alloc | apply pw_below_drewN | apply below_drew1) hb); clear HO216; clear HO219; clear HB; have HO216 := n0_; have HO219 := n1_; have HO223 := n2_; have HB := n3_; clear n0_ n1_ n2_ n3_; (try clear hb); (try clear hb2); (try clear hk); (try clear hi); (try clear ho0)))
  go_ret
  exact ⟨by first | rfl | (simp [errW_none, errW_some] <;> rfl) | (simp [*, errW_none, errW_some] <;> rfl), by repeat (first | (with_reducible first | exact HB.out | apply below_alloc | apply pw_below_drewN | apply below_drew1) | exact HB.out)⟩
end
end Go.Proofs.Ytlcodfjlbhjkbaa.PDelta
end
section
namespace Go.Proofs.Ytlcodfjlbhjkbaa.PDelta
open Go.RowKit Go.Proofs.YtlcodfjlbhjkbaaW.PrintWords Go.Proofs.YtlcodfjlbhjkbaaW.PrintLast Go.Proofs.YtlcodfjlbhjkbaaW.PrintMore
attribute [local go_sem] max2_int min2_int max_two min_two max_three min_three max_four min_four
attribute [local go_sem high] Go.Proofs.Ytlcodfjlbhjkbaa.Ord.leq_str Go.Proofs.Ytlcodfjlbhjkbaa.Ord.gtr_str Go.Proofs.Ytlcodfjlbhjkbaa.Ord.geq_str
def chanceryref1_In.f (a0 : Int) (a1 : Int) (a2 : Int) : Option (Bool) := if a0 ≥ a1 then (some (decide (a0 ≤ a2))) else (some false)
set_option maxHeartbeats 8000000 in
set_option maxRecDepth 100000 in
theorem chanceryref1_In.calls (a0 : Int) (a1 : Int) (a2 : Int) (r : Bool) (w : World) (h : chanceryref1_In.f a0 a1 a2 = some r) :
  Calls Try.prog 24 #[.int .i64 a0, .int .i64 a1, .int .i64 a2] w fun e w' => e = .returned (.bool r) ∧ Drawn0 w w' := by
 have H : (if a0 ≥ a1 then (some (decide (a0 ≤ a2))) else (some false)) = some r := h
 clear h
 by_cases c4 : a0 ≥ a1
 ·rw [if_pos c4] at H
  have c4b0 : decide (a1 ≤ a0) = true := decide_eq_true c4
  clear c4
  obtain rfl := Option.some.inj H
  go_enter Try.func24, Try.ntmps24
  go_wp2
  go_ret
  exact ⟨by first | rfl | (simp; done) | (simp [*]; done), by repeat (first | exact Drawn0.refl _ | apply Drawn0.step)⟩
 ·rw [if_neg c4] at H
  have c4b0 : decide (a1 ≤ a0) = false := decide_eq_false c4
  clear c4
  obtain rfl := Option.some.inj H
  go_enter Try.func24, Try.ntmps24
  go_wp2
  go_ret
  exact ⟨by first | rfl | (simp; done) | (simp [*]; done), by repeat (first | exact Drawn0.refl _ | apply Drawn0.step)⟩
end Go.Proofs.Ytlcodfjlbhjkbaa.PDelta
end

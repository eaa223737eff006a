/- Parts of the proof of Thru: nothing is claimed here by itself. -/
import Derived.Test.YtlcodfjlbhjkbaaKThru2
import Derived.StillTailTactics
set_option linter.unusedVariables false
set_option linter.unusedSimpArgs false
section
namespace Go.Proofs.Ytlcodfjlbhjkbaa.PDelta
open Go.RowKit Go.Proofs.YtlcodfjlbhjkbaaW.PrintWords Go.Proofs.YtlcodfjlbhjkbaaW.PrintLast Go.Proofs.YtlcodfjlbhjkbaaW.PrintMore
attribute [local go_sem] max2_int min2_int max_two min_two max_three min_three max_four min_four
attribute [local go_sem high] Go.Proofs.Ytlcodfjlbhjkbaa.Ord.leq_str Go.Proofs.Ytlcodfjlbhjkbaa.Ord.gtr_str Go.Proofs.Ytlcodfjlbhjkbaa.Ord.geq_str
attribute [local go_sem high] eqA91
def delta_Raw.l0 : Nat → List (S26) → List (S26) → List (S95) → Int → Int → Option ((List (S26)))
 | 0, _, _, _, _, _ => none
 | k + 1, x0, x5, x8, x9, x10 => if x10 < x9 then (if 0 ≤ x10 then (if x10 < (x8.length : Int) then (if ((rd_T95 x8 x10).f0) = 0 then (if 0 ≤ ((rd_T95 x8 x10).f1) then (if ((rd_T95 x8 x10).f1) ≤ (x0.length : Int) then ((delta_changed.f k (x0.take (((rd_T95 x8 x10).f1) : Int).toNat) ((rd_T95 x8 x10).f2)).bind fun t198 => (if x5.length + t198.length < 3518437208883 then (delta_Raw.l0 k (x0.drop (((rd_T95 x8 x10).f1) : Int).toNat) (x5 ++ t198) x8 x9 (wrap64 (x10 + 1))) else (none))) else (none)) else (none)) else (if ((rd_T95 x8 x10).f0) = 1 then ((flow_Copy.f k ((rd_T95 x8 x10).f3)).bind fun t209 => (if x5.length + t209.length < 3518437208883 then (delta_Raw.l0 k x0 (x5 ++ t209) x8 x9 (wrap64 (x10 + 1))) else (none))) else (if 0 ≤ ((rd_T95 x8 x10).f1) then (if ((rd_T95 x8 x10).f1) ≤ (x0.length : Int) then (delta_Raw.l0 k (x0.drop (((rd_T95 x8 x10).f1) : Int).toNat) x5 x8 x9 (wrap64 (x10 + 1))) else (none)) else (none)))) else (none)) else (none)) else (some x5)
def delta_Raw.f (k : Nat) (l0 : List (S26)) (l1 : List (S95)) : Option ((List (S26))) := delta_Raw.l0 k l0 ([] : List (S26)) l1 (l1.length : Int) 0
def delta_Raw.T8 : Bool × List (List Nat × List Nat) := (true, [([], []), ([], []), ([], []), ([2], [2]), ([1, 3], [1, 3]), ([], []), ([5], [5]), ([4, 6], [4, 6]), ([0, 7, 7], [0, 7]), ([8, 8, 0, 1, 2, 3, 4, 5, 6, 7, 8], [0, 8])])
def delta_Raw.B8 : List Nat := [0, 0, 0, 4, 14, 0, 32, 126, 255, 511]
theorem delta_Raw.tab8 : rtab .any (opsOf Try.f56 8) = delta_Raw.T8 := by kernel_rfl
theorem delta_Raw.bits8 : waitsOk delta_Raw.T8.2 delta_Raw.B8 = true := by kernel_rfl
set_option maxHeartbeats 8000000 in
set_option maxRecDepth 100000 in
theorem delta_Raw.calls (k : Nat) (P0_ : Nat → Prop) (A0 : Option Addr) (c0 : Nat) (l0 : List (S26)) (A1 : Option Addr) (c1 : Nat) (l1 : List (S95)) (r : List (S26)) (w : World) (hs0 : Kd.V k26 26 w w.heap.size (fun k_ => P0_ k_) (.slice A0 l0.length c0) l0) (hr1 : Kd.C k95 w A1 l1.length l1) (hc1 : l1.length ≤ c1) (h : delta_Raw.f k l0 l1 = some r) :
  Calls Try.prog 56 #[.slice A0 l0.length c0, .slice A1 l1.length c1] w fun e w' => ∃ v0_ : Value, e = .returned (v0_) ∧ Kd.N k26 26 w' w.heap.size (fun k_ => (P0_ k_ ∨ w.heap.size ≤ k_)) v0_ r ∧ Below w.heap.size w w' := by
 have hu95 := Try.underlying95
 have HO0 := Aside0.mk (show Kd.V k26 26 w w.heap.size (fun k_ => (P0_ k_ ∨ w.heap.size ≤ k_)) (.slice A0 l0.length c0) l0 from Kd.V_mono hs0 (fun k_ hk => .inl hk))
 have HR1 := Aside0.mk hr1
 have HC1 := Aside0.mk hc1
 clear hr1 hc1
 have HB := Aside0.mk (Below.refl w.heap.size w)
 have H : (delta_Raw.l0 k l0 ([] : List (S26)) l1 (l1.length : Int) 0) = some r := h
 clear h
 have H' := Aside0.mk H
 clear H
 go_enter Try.func56, Try.ntmps56
 go_wp2
 go_loopg [0, 5, 10] k (fun kq v0 v5 v10 w' => ∃ (x0_1 : List (S26)) (x5_1 : List (S26)) (x10_1 : Int), v10 = .int .i64 x10_1 ∧ Aside0 (delta_Raw.l0 kq x0_1 x5_1 l1 (l1.length : Int) x10_1 = some r) ∧ Aside0 (kq ≤ k) ∧ Aside0 (Kd.V k26 26 w' w.heap.size (fun k_ => (P0_ k_ ∨ w.heap.size ≤ k_) ∧ some k_ ≠ (v5 : Value).ownBlock) v0 x0_1) ∧ Aside0 (Kd.N k26 26 w' w.heap.size (fun k_ => (P0_ k_ ∨ w.heap.size ≤ k_)) v5 x5_1) ∧ Aside0 (Below w.heap.size w w'))
 case atStart => exact ⟨(l0), (([] : List (S26))), (0), (by first | rfl | (simp; done) | (simp [*]; done)), H', ⟨Nat.le_refl _⟩, ⟨by (with_reducible repeat (first | apply Kd.V_alloc | apply Kd.V_drewN | apply Kd.V_drew)); exact Kd.V_mono HO0.out (fun _ hk => ⟨hk, (by simp [Value.ownBlock])⟩)⟩, ⟨by first | exact Kd.S_nil _ _ _ _ _ | exact Kd.N_nil _ _ _ _ _ | exact Kd.V_nil _ _ _ _ _ | exact Kd.Q_nil _ _ _ _ _ | exact Kd.R_nil _ _ _ _ _⟩, ⟨by repeat (first | (with_reducible first | exact HB.out | apply below_alloc | apply pw_below_drewN | apply below_drew1) | exact HB.out)⟩⟩
 case round =>
  clear H'
  try clear c1
  try clear p2
  obtain ⟨x0_1, x5_1, x10_1, rfl, HA, HK1, HO_0, HO_5, HB⟩ := hrel
  cases gk with
  | zero => exact absurd HA.out (by simp [delta_Raw.l0])
  | succ k1 =>
   have H := HA.out
   clear HA
   simp only [delta_Raw.l0] at H
   by_cases c3 : x10_1 < (l1.length : Int)
   ·rw [if_pos c3] at H
    have c3b0 : decide (x10_1 < (l1.length : Int)) = true := decide_eq_true c3
    clear c3
    by_cases c4 : 0 ≤ x10_1
    ·rw [if_pos c4] at H
     have c4b0 : decide (0 ≤ x10_1) = true := decide_eq_true c4
     clear c4
     by_cases c5 : x10_1 < (l1.length : Int)
     ·rw [if_pos c5] at H
      have c5b0 : decide (x10_1 < (l1.length : Int)) = true := decide_eq_true c5
      clear c5
      by_cases c6 : ((rd_T95 l1 x10_1).f0) = 0
      ·rw [if_pos c6] at H
       have c6b0 : (((rd_T95 l1 x10_1).f0) == 0) = true := beq_iff_eq.mpr c6
       have c6b1 : (((rd_T95 l1 x10_1).f0) != 0) = false := bne_eq_false_iff_eq.mpr c6
       clear c6
       by_cases c7 : 0 ≤ ((rd_T95 l1 x10_1).f1)
       ·rw [if_pos c7] at H
        have c7b0 := eq_true c7
        have c7b1 : decide (0 ≤ ((rd_T95 l1 x10_1).f1)) = true := decide_eq_true c7
        clear c7
        by_cases c8 : ((rd_T95 l1 x10_1).f1) ≤ (x0_1.length : Int)
        ·rw [if_pos c8] at H
         have c8b0 := eq_true c8
         have c8b1 : decide (((rd_T95 l1 x10_1).f1) ≤ (x0_1.length : Int)) = true := decide_eq_true c8
         clear c8
         obtain ⟨y193, hy193⟩ : ∃ y_ : List (S26), y_ = (x0_1.take (((rd_T95 l1 x10_1).f1) : Int).toNat) := ⟨_, rfl⟩
         replace H : ((delta_changed.f k1 y193 ((rd_T95 l1 x10_1).f2)).bind fun t198 => (if x5_1.length + t198.length < 3518437208883 then (delta_Raw.l0 k1 (x0_1.drop (((rd_T95 l1 x10_1).f1) : Int).toNat) (x5_1 ++ t198) l1 (l1.length : Int) (wrap64 (x10_1 + 1))) else (none))) = some r := by first | (rw [hy193]; with_reducible exact H) | (have H2_ := (Option.bind_some _ _).symm.trans H; rw [hy193]; with_reducible exact H2_) | (have H2_ := (Option.bind_some _ _).symm.trans H; with_reducible exact H2_) | with_reducible exact H | (rw [hy193]; exact H) | exact H
         have Ny193 := Aside0.mk hy193
         clear hy193
         replace H := Option.bind_eq_some_iff.mp H
         obtain ⟨t198, A90, H⟩ := H
         replace H : (if x5_1.length + t198.length < 3518437208883 then (delta_Raw.l0 k1 (x0_1.drop (((rd_T95 l1 x10_1).f1) : Int).toNat) (x5_1 ++ t198) l1 (l1.length : Int) (wrap64 (x10_1 + 1))) else (none)) = some r := H
         have A9 := Aside0.mk A90
         clear A90
         by_cases c10 : x5_1.length + t198.length < 3518437208883
         ·rw [if_pos c10] at H
          have LMc10 := Aside0.mk c10
          clear c10
          obtain ⟨y201, hy201⟩ : ∃ y_ : List (S26), y_ = (x5_1 ++ t198) := ⟨_, rfl⟩
          replace H : (delta_Raw.l0 k1 (x0_1.drop (((rd_T95 l1 x10_1).f1) : Int).toNat) y201 l1 (l1.length : Int) (wrap64 (x10_1 + 1))) = some r := by first | (rw [hy201]; with_reducible exact H) | (have H2_ := (Option.bind_some _ _).symm.trans H; rw [hy201]; with_reducible exact H2_) | (have H2_ := (Option.bind_some _ _).symm.trans H; with_reducible exact H2_) | with_reducible exact H | (rw [hy201]; exact H) | exact H
          have Ny201 := Aside0.mk hy201
          clear hy201
          have c11b0 := eq_true (of_decide_eq_true (by assumption) : 0 ≤ ((rd_T95 l1 x10_1).f1))
          have c12b0 := eq_true (of_decide_eq_true (by assumption) : ((rd_T95 l1 x10_1).f1) ≤ (x0_1.length : Int))
          obtain ⟨y204, hy204⟩ : ∃ y_ : List (S26), y_ = (x0_1.drop (((rd_T95 l1 x10_1).f1) : Int).toNat) := ⟨_, rfl⟩
          replace H : (delta_Raw.l0 k1 y204 y201 l1 (l1.length : Int) (wrap64 (x10_1 + 1))) = some r := by first | (rw [hy204]; with_reducible exact H) | (have H2_ := (Option.bind_some _ _).symm.trans H; rw [hy204]; with_reducible exact H2_) | (have H2_ := (Option.bind_some _ _).symm.trans H; with_reducible exact H2_) | with_reducible exact H | (rw [hy204]; exact H) | exact H
          have Ny204 := Aside0.mk hy204
          clear hy204
          have H' := Aside0.mk H
          clear H
          have p191 : 0 ≤ (x10_1 : Int) := of_decide_eq_true (by assumption)
          have q191 : x10_1 < (l1.length : Int) := of_decide_eq_true (by assumption)
          obtain ⟨ad191, A191_2, c191_2, A191_3, c191_3, e191, hx191_0, hx191_1, hx191_2, hx191_3, hl191_2, hi191_2, hl191_3, hi191_3⟩ := at_T95 HR1.out x10_1 p191 q191
          cases e191
          replace hx191_0 := (HB.out.cell (World.block_lt_of_cell? w _ hx191_0)).trans hx191_0
          replace hx191_1 := (HB.out.cell (World.block_lt_of_cell? w _ hx191_1)).trans hx191_1
          replace hx191_2 := (HB.out.cell (World.block_lt_of_cell? w _ hx191_2)).trans hx191_2
          replace hx191_3 := (HB.out.cell (World.block_lt_of_cell? w _ hx191_3)).trans hx191_3
          have HR191_2 := Aside0.mk hi191_2
          have HC191_2 := Aside0.mk hl191_2
          clear hi191_2 hl191_2
          have HR191_3 := Aside0.mk hi191_3
          have HC191_3 := Aside0.mk hl191_3
          clear hi191_3 hl191_3
          replace p191 := eq_true p191
          replace q191 := eq_true q191
          try go_wp2_with (first | ((with_reducible refine gate_dst (N := 7) rfl ?_); refine box_event ?hg (N := 7) ?hd (cs := #[.int .i64 0, .int .i64 0, .slice none 0 0, .slice none 0 0]) (t := 95) ?hr ?_; (case hd => rfl); (case hg => rfl); (case hr => first | (go_simp; done) | (go_simp; rfl)); intro gb192 hg w13 hbox hb; have n0_ := Aside0.mk (Kd.V_below (Kd.V_elderB (by (with_reducible repeat (first | apply Kd.V_alloc | apply Kd.V_drewN | apply Kd.V_drew)); exact HO_0.out) gb192 (Nat.le_of_eq hg.symm)) hb); have n1_ := Aside0.mk (Kd.N_below (Kd.N_elderB (by (with_reducible repeat (first | apply Kd.N_alloc | apply Kd.N_drewN | apply Kd.N_drew)); exact HO_5.out) gb192 (Nat.le_of_eq hg.symm)) hb); have n2_ := Aside0.mk (below_step (by with_reducible repeat first | exact HB.out | apply below_alloc | apply pw_below_drewN | apply below_drew1) hb); have n3_ := Aside0.mk (hbox); have n4_ := Aside0.mk ((by rw [hg]; exact (below_size (by with_reducible repeat first | exact HB.out | apply below_alloc | apply pw_below_drewN | apply below_drew1)) : w.heap.size ≤ gb192)); have n5_ := Aside0.mk ((by rw [hg]; exact (below_size (by with_reducible repeat first | exact HB.out | apply below_alloc | apply pw_below_drewN | apply below_drew1)) : w.heap.size ≤ gb192)); clear HO_0; clear HO_5; clear HB; have HO_0 := n0_; have HO_5 := n1_; have HB := n2_; have BK192 := n3_; have GW192 := n4_; have GE192 := n5_; clear n0_ n1_ n2_ n3_ n4_ n5_; clear hb hbox hg; have hcz14_0 : w13.cell? ⟨gb192, 0, none⟩ = some (.int .i64 0) := (blk_cell BK192.out 0).trans rfl; have hcz14_1 : w13.cell? ⟨gb192, 1, none⟩ = some (.int .i64 0) := (blk_cell BK192.out 1).trans rfl; have hcz14_2 : w13.cell? ⟨gb192, 2, none⟩ = some (.slice none 0 0) := (blk_cell BK192.out 2).trans rfl; have hcz14_3 : w13.cell? ⟨gb192, 3, none⟩ = some (.slice none 0 0) := (blk_cell BK192.out 3).trans rfl; have hfz14_0 := blk_frozen BK192.out 0; have hfz14_1 := blk_frozen BK192.out 1; have hfz14_2 := blk_frozen BK192.out 2; have hfz14_3 := blk_frozen BK192.out 3))
          have n0_ : Aside0 (Kd.V k26 26 ((((w13.setCell ⟨gb192, 0, none⟩ (.int .i64 ((rd_T95 l1 x10_1).f0))).setCell ⟨gb192, 1, none⟩ (.int .i64 ((rd_T95 l1 x10_1).f1))).setCell ⟨gb192, 2, none⟩ (.slice A191_2 ((rd_T95 l1 x10_1).f2).length c191_2)).setCell ⟨gb192, 3, none⟩ (.slice A191_3 ((rd_T95 l1 x10_1).f3).length c191_3)) w.heap.size (fun k_ => (P0_ k_ ∨ w.heap.size ≤ k_) ∧ some k_ ≠ (u5 : Value).ownBlock ∧ k_ ≠ gb192) u0 x0_1) := ⟨by (with_reducible repeat (first | apply Kd.V_alloc | apply Kd.V_drewN | apply Kd.V_drew)); exact Kd.V_mono (Kd.V_far (p := ⟨gb192, 3, none⟩) (Kd.V_far (p := ⟨gb192, 2, none⟩) (Kd.V_far (p := ⟨gb192, 1, none⟩) (Kd.V_far (p := ⟨gb192, 0, none⟩) (Kd.V_mono HO_0.out (fun k_ hk => (⟨hk, hk.2⟩ : _ ∧ k_ ≠ gb192))) (fun _ hk => hk.2) (.int .i64 ((rd_T95 l1 x10_1).f0))) (fun _ hk => hk.2) (.int .i64 ((rd_T95 l1 x10_1).f1))) (fun _ hk => hk.2) (.slice A191_2 ((rd_T95 l1 x10_1).f2).length c191_2)) (fun _ hk => hk.2) (.slice A191_3 ((rd_T95 l1 x10_1).f3).length c191_3)) (fun _ hk => ⟨hk.1.1.1, ⟨hk.1.1.2, hk.1.2⟩⟩)⟩
          have n1_ : Aside0 (Kd.N k26 26 ((((w13.setCell ⟨gb192, 0, none⟩ (.int .i64 ((rd_T95 l1 x10_1).f0))).setCell ⟨gb192, 1, none⟩ (.int .i64 ((rd_T95 l1 x10_1).f1))).setCell ⟨gb192, 2, none⟩ (.slice A191_2 ((rd_T95 l1 x10_1).f2).length c191_2)).setCell ⟨gb192, 3, none⟩ (.slice A191_3 ((rd_T95 l1 x10_1).f3).length c191_3)) w.heap.size (fun k_ => (P0_ k_ ∨ w.heap.size ≤ k_) ∧ k_ ≠ gb192) u5 x5_1) := ⟨by (with_reducible repeat (first | apply Kd.N_alloc | apply Kd.N_drewN | apply Kd.N_drew)); exact Kd.N_mono (Kd.N_far (p := ⟨gb192, 3, none⟩) (Kd.N_far (p := ⟨gb192, 2, none⟩) (Kd.N_far (p := ⟨gb192, 1, none⟩) (Kd.N_far (p := ⟨gb192, 0, none⟩) (Kd.N_mono HO_5.out (fun k_ hk => (⟨hk, hk.2⟩ : _ ∧ k_ ≠ gb192))) (fun _ hk => hk.2) (.int .i64 ((rd_T95 l1 x10_1).f0))) (fun _ hk => hk.2) (.int .i64 ((rd_T95 l1 x10_1).f1))) (fun _ hk => hk.2) (.slice A191_2 ((rd_T95 l1 x10_1).f2).length c191_2)) (fun _ hk => hk.2) (.slice A191_3 ((rd_T95 l1 x10_1).f3).length c191_3)) (fun _ hk => ⟨hk.1.1, hk.1.2⟩)⟩
          have n2_ : Aside0 (((((w13.setCell ⟨gb192, 0, none⟩ (.int .i64 ((rd_T95 l1 x10_1).f0))).setCell ⟨gb192, 1, none⟩ (.int .i64 ((rd_T95 l1 x10_1).f1))).setCell ⟨gb192, 2, none⟩ (.slice A191_2 ((rd_T95 l1 x10_1).f2).length c191_2)).setCell ⟨gb192, 3, none⟩ (.slice A191_3 ((rd_T95 l1 x10_1).f3).length c191_3)).heap[gb192]? = some (.cells #[.int .i64 ((rd_T95 l1 x10_1).f0), .int .i64 ((rd_T95 l1 x10_1).f1), .slice A191_2 ((rd_T95 l1 x10_1).f2).length c191_2, .slice A191_3 ((rd_T95 l1 x10_1).f3).length c191_3] 95 (0, 0))) := ⟨by (with_reducible repeat (first | refine blk_drewN ?_ _ | refine blk_drew ?_ | refine blk_alloc ?_ _)); refine blk_put (cs := #[.int .i64 ((rd_T95 l1 x10_1).f0), .int .i64 ((rd_T95 l1 x10_1).f1), .slice A191_2 ((rd_T95 l1 x10_1).f2).length c191_2, .slice none 0 0]) ?_ 3 _ rfl; (with_reducible repeat (first | refine blk_drewN ?_ _ | refine blk_drew ?_ | refine blk_alloc ?_ _)); refine blk_put (cs := #[.int .i64 ((rd_T95 l1 x10_1).f0), .int .i64 ((rd_T95 l1 x10_1).f1), .slice none 0 0, .slice none 0 0]) ?_ 2 _ rfl; (with_reducible repeat (first | refine blk_drewN ?_ _ | refine blk_drew ?_ | refine blk_alloc ?_ _)); refine blk_put (cs := #[.int .i64 ((rd_T95 l1 x10_1).f0), .int .i64 0, .slice none 0 0, .slice none 0 0]) ?_ 1 _ rfl; (with_reducible repeat (first | refine blk_drewN ?_ _ | refine blk_drew ?_ | refine blk_alloc ?_ _)); refine blk_put (cs := #[.int .i64 0, .int .i64 0, .slice none 0 0, .slice none 0 0]) ?_ 0 _ rfl; (with_reducible repeat (first | refine blk_drewN ?_ _ | refine blk_drew ?_ | refine blk_alloc ?_ _)); exact BK192.out⟩
          have n3_ : Aside0 (Below w.heap.size w ((((w13.setCell ⟨gb192, 0, none⟩ (.int .i64 ((rd_T95 l1 x10_1).f0))).setCell ⟨gb192, 1, none⟩ (.int .i64 ((rd_T95 l1 x10_1).f1))).setCell ⟨gb192, 2, none⟩ (.slice A191_2 ((rd_T95 l1 x10_1).f2).length c191_2)).setCell ⟨gb192, 3, none⟩ (.slice A191_3 ((rd_T95 l1 x10_1).f3).length c191_3))) := ⟨by repeat (first | (with_reducible first | exact HB.out | apply below_alloc | apply pw_below_drewN | apply below_drew1 | refine below_set ?_ GE192.out) | exact HB.out)⟩
          (try clear HO_0)
          (try clear HO_5)
          (try clear BK192)
          (try clear HB)
          generalize ((((w13.setCell ⟨gb192, 0, none⟩ (.int .i64 ((rd_T95 l1 x10_1).f0))).setCell ⟨gb192, 1, none⟩ (.int .i64 ((rd_T95 l1 x10_1).f1))).setCell ⟨gb192, 2, none⟩ (.slice A191_2 ((rd_T95 l1 x10_1).f2).length c191_2)).setCell ⟨gb192, 3, none⟩ (.slice A191_3 ((rd_T95 l1 x10_1).f3).length c191_3)) = w15 at n0_ n1_ n2_ n3_ ⊢
          have HO_0 := n0_
          have HO_5 := n1_
          have BK192 := n2_
          have HB := n3_
          clear n0_ n1_ n2_ n3_
          have n0_ := Aside0.mk (Kd.V_drew HO_0.out)
          have n1_ := Aside0.mk (Kd.N_drew HO_5.out)
          have n2_ := Aside0.mk (blk_drew BK192.out)
          have n3_ := Aside0.mk (below_drew1 HB.out)
          clear HO_0
          clear HO_5
          clear BK192
          clear HB
          have HO_0 := n0_
          have HO_5 := n1_
          have BK192 := n2_
          have HB := n3_
          clear n0_ n1_ n2_ n3_
          obtain ⟨Ao18, co18, eo18⟩ := Kd.V_slice HO_0.out
          (first | subst eo18 | (injection eo18 with f1_ f2_ f3_; have f4_ := f1_.symm; have f5_ := f3_.symm; clear f1_ f2_ f3_; subst f4_; subst f5_))
          have q17 : (((rd_T95 l1 x10_1).f1) : Int) ≤ ((x0_1.length : Int) : Int) := of_decide_eq_true (by assumption)
          obtain ⟨i017, hi017, _, hsz17, _⟩ := info_parts info26
          have hroom17 : x0_1.length ≤ co18 := (Kd.V_reads' HO_0.out).2.1
          have hC17 : Kd.F k26 _ _ Ao18 x0_1.length x0_1 := (Kd.V_at (base := w.heap.size) HO_0.out).2.2
          have hcut17 := cut_to (P := Try.prog) 22 26 .i64 Try.underlying22 hi017 Ao18 x0_1.length co18 ((rd_T95 l1 x10_1).f1) (of_decide_eq_true (by assumption)) q17 hroom17
          have hr17 := Kd.F_take (m := (((rd_T95 l1 x10_1).f1) : Int).toNat) hC17 (by omega)
          have hy17 : y193.length = (((rd_T95 l1 x10_1).f1) : Int).toNat := (by rw [Ny193.out, List.length_take]; omega)
          rw [← Ny193.out] at hr17
          rw [← hy17] at hcut17
          have HO197 := Aside0.mk (show Kd.V k26 26 _ w.heap.size _ (.slice Ao18 y193.length co18) y193 from Kd.V_mk (by omega) hr17)
          have HC197 := Aside0.mk (show y193.length ≤ co18 from by omega)
          clear hr17 hC17 hroom17 hi017 hsz17
          have KY17 := Aside0.mk hy17
          clear hy17
          replace q17 := eq_true q17
          refine start_ (n := 10) (S := fun w' => w'.cell? ⟨gb192, 0, none⟩ = some (.int .i64 ((rd_T95 l1 x10_1).f0)) ∧ w'.cell? ⟨gb192, 1, none⟩ = some (.int .i64 ((rd_T95 l1 x10_1).f1)) ∧ w'.cell? ⟨gb192, 2, none⟩ = some (.slice A191_2 ((rd_T95 l1 x10_1).f2).length c191_2) ∧ w'.cell? ⟨gb192, 3, none⟩ = some (.slice A191_3 ((rd_T95 l1 x10_1).f3).length c191_3)) (ds := []) #[false, false, false, false, false, false, false, false, false, false] (by kernel_rfl) rfl rfl ⟨(blk_cell BK192.out 0).trans rfl, (blk_cell BK192.out 1).trans rfl, (blk_cell BK192.out 2).trans rfl, (blk_cell BK192.out 3).trans rfl⟩ (fun hHeld => ?_); refine with_tabW delta_Raw.tab8 delta_Raw.bits8 (fun HT_ HW_ => ?_)
          generalize w15.drew = w16 at HO_0 HO_5 BK192 HB HO197 hHeld ⊢
          refine pure_ (i := 0) (N := some 22) (v := ?_) (a' := ?_) (bm 1 10) rfl rfl (any_of HT_.out (by kernel_rfl)) (fun _ _ _ h => h) (Or.inl ⟨by rfl, ?_⟩) ?_ ?_
          rotate_left
          ·intro w'
           go_simp
           with_reducible rfl
          rotate_left
          ·simp only [Act.put, sA, sB, sC, i64_w, i32_w]
           rfl
          refine pure_ (i := 1) (N := some 23) (v := ?_) (a' := ?_) (bm 3 10) rfl rfl (any_of HT_.out (by kernel_rfl)) (fun _ _ _ h => h) (Or.inl ⟨by rfl, ?_⟩) ?_ ?_
          rotate_left
          ·intro w'
           go_simp
           with_reducible rfl
          rotate_left
          ·simp only [Act.put, sA, sB, sC, i64_w, i32_w]
           rfl
          refine pure_ (i := 2) (N := some 24) (v := ?_) (a' := ?_) (bm 7 10) rfl rfl (any_of HT_.out (by kernel_rfl)) (fun _ _ _ h => h) (Or.inl ⟨by rfl, ?_⟩) ?_ ?_
          rotate_left
          ·intro w'
           go_simp
           with_reducible rfl
          rotate_left
          ·simp only [Act.put, sA, sB, sC, i64_w, i32_w]
           rfl
          refine pure_ (i := 5) (N := some 27) (v := ?_) (a' := ?_) (bm 39 10) rfl rfl (any_of HT_.out (by kernel_rfl)) (fun _ _ _ h => h) (Or.inl ⟨by rfl, ?_⟩) ?_ ?_
          rotate_left
          ·intro w'
           go_simp
           with_reducible rfl
          rotate_left
          ·simp only [Act.put, sA, sB, sC, i64_w, i32_w]
           rfl
          refine take_ (i := 3) (N := some 25) (v := ?_) (a' := ?_) (bm 47 10) rfl rfl (take_ofW HT_.out HW_.out (by kernel_rfl)) (fun _ _ _ h => h) (Or.inl ⟨by rfl, ?_⟩) hHeld ?_ ?_
          rotate_left
          ·rintro w' ⟨s0, s1, s2, s3⟩
           go_simp
           with_reducible rfl
          rotate_left
          ·simp only [Act.put, sA, sB, sC, i64_w, i32_w]
           rfl
          refine pure_ (i := 4) (N := some 26) (v := ?_) (a' := ?_) (bm 63 10) rfl rfl (any_of HT_.out (by kernel_rfl)) (fun _ _ _ h => h) (Or.inl ⟨by rfl, ?_⟩) ?_ ?_
          rotate_left
          ·intro w'
           go_simp
           with_reducible rfl
          rotate_left
          ·simp only [Act.put, sA, sB, sC, i64_w, i32_w]
           rfl
          refine take_ (i := 6) (N := some 28) (v := ?_) (a' := ?_) (bm 127 10) rfl rfl (take_ofW HT_.out HW_.out (by kernel_rfl)) (fun _ _ _ h => h) (Or.inl ⟨by rfl, ?_⟩) hHeld ?_ ?_
          rotate_left
          ·rintro w' ⟨s0, s1, s2, s3⟩
           go_simp
           with_reducible rfl
          rotate_left
          ·simp only [Act.put, sA, sB, sC, i64_w, i32_w]
           rfl
          refine one_ (i := 7) (N := some 29) (bm 255 10) rfl rfl (one_of HT_.out (by kernel_rfl)) (by decide) (fun K hK => ?_)
          refine goes_ Try.func91 (by kernel_rfl) rfl #[.slice Ao18 y193.length co18, .slice A191_2 ((rd_T95 l1 x10_1).f2).length c191_2] (by rfl) rfl rfl (by (try simp only [List.map_toArray, List.map_cons, List.map_nil]); first | done | rfl | (simp only [List.length_drop, List.length_take]; rfl)) ?_
          with_reducible refine (delta_changed.calls k1 _ _ y193 _ _ ((rd_T95 l1 x10_1).f2) t198 _ ?side1 ?side2 ?side3 ?side4 A9.out).mono ?_
          (case side1 => repeat (first | exact (Kd.V_reads' HO197.out).2.2 | (with_reducible refine Kd.C_alloc ?_ _) | (with_reducible refine Kd.C_drewN ?_ _) | (with_reducible refine Kd.C_drew ?_)))
          (case side2 => exact (Kd.V_reads' HO197.out).2.1)
          (case side3 => repeat (first | exact (Kd.C_below HR191_2.out HB.out) | (with_reducible refine Kd.C_alloc ?_ _) | (with_reducible refine Kd.C_drewN ?_ _) | (with_reducible refine Kd.C_drew ?_)))
          (case side4 => exact HC191_2.out)
          rintro e w19 ⟨v199, rfl, ho0, hb⟩
          refine ⟨_, rfl, ?_⟩
          have n0_ := Aside0.mk (Kd.V_elder' (by (with_reducible repeat (first | apply Kd.V_alloc | apply Kd.V_drewN | apply Kd.V_drew)); exact HO_0.out) (Kd.N_base (by first | exact ho0 | exact Kd.S_N ho0)) hb)
          have n1_ := Aside0.mk (Kd.N_elder' (by (with_reducible repeat (first | apply Kd.N_alloc | apply Kd.N_drewN | apply Kd.N_drew)); exact HO_5.out) (Kd.N_base (by first | exact ho0 | exact Kd.S_N ho0)) hb)
          have n2_ := Aside0.mk (Kd.V_elder' (by (with_reducible repeat (first | apply Kd.V_alloc | apply Kd.V_drewN | apply Kd.V_drew)); exact HO197.out) (Kd.N_base (by first | exact ho0 | exact Kd.S_N ho0)) hb)
          have n3_ := Aside0.mk (Kd.N_lower (Kd.N_mono (ok' := fun k_ => (P0_ k_ ∨ w.heap.size ≤ k_) ∧ some k_ ≠ (u5 : Value).ownBlock ∧ k_ ≠ gb192) (Kd.S_N (Kd.S_bound ho0)) (fun k_ hk_ => ⟨(.inr (Nat.le_trans (below_size (by repeat (first | (with_reducible first | exact HB.out | apply below_alloc | apply pw_below_drewN | apply below_drew1 | refine below_set ?_ GE192.out) | exact HB.out))) hk_.2.1)), (Kd.fresh' (Kd.N_lt (by (with_reducible repeat (first | apply Kd.N_alloc | apply Kd.N_drewN | apply Kd.N_drew)); exact HO_5.out)) k_ hk_.2.1), (Kd.freshB (g := gb192) (o := .cells #[.int .i64 ((rd_T95 l1 x10_1).f0), .int .i64 ((rd_T95 l1 x10_1).f1), .slice A191_2 ((rd_T95 l1 x10_1).f2).length c191_2, .slice A191_3 ((rd_T95 l1 x10_1).f3).length c191_3] 95 (0, 0)) (by (with_reducible repeat (first | refine blk_drewN ?_ _ | refine blk_drew ?_ | refine blk_alloc ?_ _)); exact BK192.out) k_ hk_.2.1)⟩)) (below_size (by repeat (first | (with_reducible first | exact HB.out | apply below_alloc | apply pw_below_drewN | apply below_drew1 | refine below_set ?_ GE192.out) | exact HB.out))))
          have n4_ := Aside0.mk (blk_below (g := gb192) (o := .cells #[.int .i64 ((rd_T95 l1 x10_1).f0), .int .i64 ((rd_T95 l1 x10_1).f1), .slice A191_2 ((rd_T95 l1 x10_1).f2).length c191_2, .slice A191_3 ((rd_T95 l1 x10_1).f3).length c191_3] 95 (0, 0)) (by (with_reducible repeat (first | refine blk_drewN ?_ _ | refine blk_drew ?_ | refine blk_alloc ?_ _)); exact BK192.out) hb)
          have n5_ := Aside0.mk (below_step (by repeat (first | (with_reducible first | exact HB.out | apply below_alloc | apply pw_below_drewN | apply below_drew1 | refine below_set ?_ GE192.out) | exact HB.out)) hb)
          clear HO_0
          clear HO_5
          clear HO197
          clear BK192
          clear HB
          have HO_0 := n0_
          have HO_5 := n1_
          have HO197 := n2_
          have HO200 := n3_
          have BK192 := n4_
          have HB := n5_
          clear n0_ n1_ n2_ n3_ n4_ n5_
          (try clear hb)
          (try clear hb2)
          (try clear hk)
          (try clear hi)
          (try clear ho0)
          obtain ⟨Ao21, co21, eo21⟩ := Kd.N_slice HO200.out
          (first | subst eo21 | (injection eo21 with f1_ f2_ f3_; have f4_ := f1_.symm; have f5_ := f3_.symm; clear f1_ f2_ f3_; subst f4_; subst f5_))
          refine hK.out _ _ ⟨(blk_cell BK192.out 0).trans rfl, (blk_cell BK192.out 1).trans rfl, (blk_cell BK192.out 2).trans rfl, (blk_cell BK192.out 3).trans rfl⟩ (fun hHeld => ?_)
          clear hK K
          refine norm_ (a' := ?_) ?_ ?_
          rotate_left
          ·show Act.put _ (some 29) _ = _
           simp only [Act.put, sA, sB, sC, i64_w, i32_w]
           rfl
          refine one_ (i := 8) (N := some 30) (bm 511 10) rfl rfl (one_of HT_.out (by kernel_rfl)) (by decide) (fun K hK => ?_)
          refine Kd.N_append_rows_step k26 (w0 := w) w.heap.size (by rfl) (.tmp 22) (.tmp 29) 22 26 (.agg #[(.int .i64 0), (.int .i64 0), (.slice none 0 0)]) 40 rfl Try.underlying22 info26 rfl (by decide) (by omega) u5 x5_1 t198 _ _ _ (fun k_ => (P0_ k_ ∨ w.heap.size ≤ k_) ∧ k_ ≠ gb192) (fun k_ => ((fun k_ => (P0_ k_ ∨ w.heap.size ≤ k_) ∧ k_ ≠ gb192)) k_ ∧ some k_ ≠ (u5 : Value).ownBlock) rfl rfl ?aO ?aR (fun _ hk => hk) ?aF ?aB ?aS ?aL ?_
          (case aR => exact (by skip; exact Kd.N_F (Kd.N_mono (ok' := (fun k_ => ((fun k_ => (P0_ k_ ∨ w.heap.size ≤ k_) ∧ k_ ≠ gb192)) k_ ∧ some k_ ≠ (u5 : Value).ownBlock)) (HO200.out) (fun k_ hk => ⟨⟨hk.1, hk.2.2⟩, hk.2.1⟩))))
          (case aB => exact (by repeat (first | (with_reducible first | exact HB.out | apply below_alloc | apply pw_below_drewN | apply below_drew1 | refine below_set ?_ GE192.out) | exact HB.out)))
          (case aF => exact (fun k_ hk => ⟨(.inr (Nat.le_trans (below_size (by repeat (first | (with_reducible first | exact HB.out | apply below_alloc | apply pw_below_drewN | apply below_drew1 | refine below_set ?_ GE192.out) | exact HB.out))) hk)), Kd.freshB (g := gb192) (o := .cells #[.int .i64 ((rd_T95 l1 x10_1).f0), .int .i64 ((rd_T95 l1 x10_1).f1), .slice A191_2 ((rd_T95 l1 x10_1).f2).length c191_2, .slice A191_3 ((rd_T95 l1 x10_1).f3).length c191_3] 95 (0, 0)) (by (with_reducible repeat (first | refine blk_drewN ?_ _ | refine blk_drew ?_ | refine blk_alloc ?_ _)); exact BK192.out) k_ hk⟩))
          (case aO => exact (by (with_reducible repeat (first | apply Kd.N_alloc | apply Kd.N_drewN | apply Kd.N_drew)); exact Kd.N_mono HO_5.out (fun _ hk => ⟨hk.1.1, hk.1.2⟩)))
          (case aS => exact (below_size (by repeat (first | (with_reducible first | exact HB.out | apply below_alloc | apply pw_below_drewN | apply below_drew1 | refine below_set ?_ GE192.out) | exact HB.out))))
          (case aL => have := LMc10.out; omega)
          intro v202 w20 ho hb hg hat
          rw [← Ny201.out] at ho
          have n0_ := Aside0.mk (Kd.V_afterv (ok := (fun k_ => (P0_ k_ ∨ w.heap.size ≤ k_) ∧ some k_ ≠ (.slice Ao21 t198.length co21 : Value).ownBlock ∧ k_ ≠ gb192)) (by (with_reducible repeat (first | apply Kd.V_alloc | apply Kd.V_drewN | apply Kd.V_drew)); exact Kd.V_mono HO_0.out (fun _ hk => ⟨⟨hk.1.1, ⟨hk.2, hk.1.2.2⟩⟩, hk.1.2.1⟩)) hg hat)
          have n1_ := Aside0.mk (blk_grown (g := gb192) (o := .cells #[.int .i64 ((rd_T95 l1 x10_1).f0), .int .i64 ((rd_T95 l1 x10_1).f1), .slice A191_2 ((rd_T95 l1 x10_1).f2).length c191_2, .slice A191_3 ((rd_T95 l1 x10_1).f3).length c191_3] 95 (0, 0)) (by (with_reducible repeat (first | refine blk_drewN ?_ _ | refine blk_drew ?_ | refine blk_alloc ?_ _)); exact BK192.out) hg (Kd.N_ne HO_5.out BK192.out (by decide)))
          have n2_ := Aside0.mk (Kd.V_afterv (ok := (fun k_ => (P0_ k_ ∨ w.heap.size ≤ k_) ∧ some k_ ≠ (.slice Ao21 t198.length co21 : Value).ownBlock ∧ k_ ≠ gb192)) (by (with_reducible repeat (first | apply Kd.V_alloc | apply Kd.V_drewN | apply Kd.V_drew)); exact Kd.V_mono HO197.out (fun _ hk => ⟨⟨hk.1.1, ⟨hk.2, hk.1.2.2⟩⟩, hk.1.2.1⟩)) hg hat)
          have n3_ := Aside0.mk (Kd.N_afterv (ok := (fun k_ => (P0_ k_ ∨ w.heap.size ≤ k_) ∧ k_ ≠ gb192)) (by (with_reducible repeat (first | apply Kd.N_alloc | apply Kd.N_drewN | apply Kd.N_drew)); exact Kd.N_mono HO200.out (fun _ hk => ⟨⟨hk.1, hk.2.2⟩, hk.2.1⟩)) hg hat)
          have n4_ := Aside0.mk (hb)
          have n5_ := Aside0.mk (ho)
          clear HO_0
          clear BK192
          clear HO197
          clear HO200
          clear HB
          clear HO_5
          have HO_0 := n0_
          have BK192 := n1_
          have HO197 := n2_
          have HO200 := n3_
          have HB := n4_
          have HO203 := n5_
          clear n0_ n1_ n2_ n3_ n4_ n5_
          clear ho hb hg hat
          refine hK.out _ _ ⟨(blk_cell BK192.out 0).trans rfl, (blk_cell BK192.out 1).trans rfl, (blk_cell BK192.out 2).trans rfl, (blk_cell BK192.out 3).trans rfl⟩ (fun hHeld => ?_)
          clear hK K
          refine norm_ (a' := ?_) ?_ ?_
          rotate_left
          ·show Act.put _ (some 30) _ = _
           simp only [Act.put, sA, sB, sC, i64_w, i32_w]
           rfl
          refine pure_ (i := 9) (N := some 5) (v := ?_) (a' := ?_) (bm 1023 10) rfl rfl (any_of HT_.out (by kernel_rfl)) (fun _ _ _ h => h) (Or.inl ⟨by rfl, ?_⟩) ?_ ?_
          rotate_left
          ·intro w'
           go_simp
           with_reducible rfl
          rotate_left
          ·simp only [Act.put, sA, sB, sC, i64_w, i32_w]
           rfl
          refine done_ (done_of HT_.out (by kernel_rfl)) ?_
          have hcz22_0 : w20.cell? ⟨gb192, 0, none⟩ = some (.int .i64 ((rd_T95 l1 x10_1).f0)) := (blk_cell BK192.out 0).trans rfl
          have hcz22_1 : w20.cell? ⟨gb192, 1, none⟩ = some (.int .i64 ((rd_T95 l1 x10_1).f1)) := (blk_cell BK192.out 1).trans rfl
          have hcz22_2 : w20.cell? ⟨gb192, 2, none⟩ = some (.slice A191_2 ((rd_T95 l1 x10_1).f2).length c191_2) := (blk_cell BK192.out 2).trans rfl
          have hcz22_3 : w20.cell? ⟨gb192, 3, none⟩ = some (.slice A191_3 ((rd_T95 l1 x10_1).f3).length c191_3) := (blk_cell BK192.out 3).trans rfl
          have hfz22_0 := blk_frozen BK192.out 0
          have hfz22_1 := blk_frozen BK192.out 1
          have hfz22_2 := blk_frozen BK192.out 2
          have hfz22_3 := blk_frozen BK192.out 3
          have q23 : (((rd_T95 l1 x10_1).f1) : Int) ≤ ((x0_1.length : Int) : Int) := of_decide_eq_true (by assumption)
          obtain ⟨i023, hi023, _, hsz23, _⟩ := info_parts info26
          have hroom23 : x0_1.length ≤ co18 := (Kd.V_reads' HO_0.out).2.1
          have hC23 : Kd.F k26 _ _ Ao18 x0_1.length x0_1 := (Kd.V_at (base := w.heap.size) HO_0.out).2.2
          have q023 : (0 : Int) ≤ (((rd_T95 l1 x10_1).f1) : Int) := of_decide_eq_true (by assumption)
          have hcut23 := cut_from (P := Try.prog) 22 26 .i64 Try.underlying22 hi023 3 hsz23 Ao18 x0_1.length co18 ((rd_T95 l1 x10_1).f1) q023 q23
          have hr23 := Kd.F_cut (m := (((rd_T95 l1 x10_1).f1) : Int).toNat) (c := co18) hC23 (by omega) hroom23
          obtain ⟨A23, hA23⟩ : ∃ A1, A1 = (if co18 = (((rd_T95 l1 x10_1).f1) : Int).toNat then Ao18 else (Ao18 : Option Addr).map (·.add ((((rd_T95 l1 x10_1).f1) : Int).toNat * 3))) := ⟨_, rfl⟩
          obtain ⟨c23, hc23⟩ : ∃ c1, c1 = co18 - (((rd_T95 l1 x10_1).f1) : Int).toNat := ⟨_, rfl⟩
          have hy23 : y204.length = x0_1.length - (((rd_T95 l1 x10_1).f1) : Int).toNat := (by rw [Ny204.out, List.length_drop] <;> omega)
          rw [show (x0_1).drop (((rd_T95 l1 x10_1).f1) : Int).toNat = y204 from Ny204.out.symm] at hr23
          replace hr23 : Kd.F k26 _ _ A23 y204.length y204 := (by rw [hA23]; exact hr23)
          rw [← hy23, ← hA23, ← hc23] at hcut23
          have HO208 := Aside0.mk (show Kd.V k26 26 _ w.heap.size _ (.slice A23 y204.length c23) y204 from Kd.V_mk (by rw [hy23, hc23]; exact Nat.sub_le_sub_right hroom23 _) hr23)
          have HC208 := Aside0.mk (show y204.length ≤ c23 from by rw [hy23, hc23]; exact Nat.sub_le_sub_right hroom23 _)
          clear hr23 hC23 hroom23 hi023 hsz23 hc23
          have KY23 := Aside0.mk hy23
          have KA23 := Aside0.mk hA23
          clear hy23 hA23
          replace q23 := eq_true q23
          try go_wp2
          go_roundg k1
          case measure => have := HK1.out; omega
          case rel => exact ⟨(y204), (y201), (wrap64 (x10_1 + 1)), (by first | rfl | (simp; done) | (simp [*]; done)), H', ⟨by have := HK1.out; omega⟩, ⟨by (with_reducible repeat (first | apply Kd.V_alloc | apply Kd.V_drewN | apply Kd.V_drew)); exact Kd.V_mono HO208.out (fun _ hk => ⟨hk.1.1, hk.2⟩)⟩, ⟨by (with_reducible repeat (first | apply Kd.N_alloc | apply Kd.N_drewN | apply Kd.N_drew)); exact Kd.N_mono HO203.out (fun _ hk => hk.1)⟩, ⟨by repeat (first | (with_reducible first | exact HB.out | apply below_alloc | apply pw_below_drewN | apply below_drew1 | refine below_set ?_ GE192.out) | exact HB.out)⟩⟩
         ·rw [if_neg c10] at H
          exact absurd H (by simp)
        ·rw [if_neg c8] at H
         exact absurd H (by simp)
       ·rw [if_neg c7] at H
        exact absurd H (by simp)
      ·rw [if_neg c6] at H
       have c6b0 : (((rd_T95 l1 x10_1).f0) == 0) = false := beq_eq_false_iff_ne.mpr c6
       have c6b1 : (((rd_T95 l1 x10_1).f0) != 0) = true := bne_iff_ne.mpr c6
       by_cases c24 : ((rd_T95 l1 x10_1).f0) = 1
       ·rw [if_pos c24] at H
        have c24b0 : (((rd_T95 l1 x10_1).f0) == 1) = true := beq_iff_eq.mpr c24
        have c24b1 : (((rd_T95 l1 x10_1).f0) != 1) = false := bne_eq_false_iff_eq.mpr c24
        clear c24
        replace H := Option.bind_eq_some_iff.mp H
        obtain ⟨t209, A250, H⟩ := H
        replace H : (if x5_1.length + t209.length < 3518437208883 then (delta_Raw.l0 k1 x0_1 (x5_1 ++ t209) l1 (l1.length : Int) (wrap64 (x10_1 + 1))) else (none)) = some r := H
        have A25 := Aside0.mk A250
        clear A250
        by_cases c26 : x5_1.length + t209.length < 3518437208883
        ·rw [if_pos c26] at H
         have LMc26 := Aside0.mk c26
         clear c26
         obtain ⟨y212, hy212⟩ : ∃ y_ : List (S26), y_ = (x5_1 ++ t209) := ⟨_, rfl⟩
         replace H : (delta_Raw.l0 k1 x0_1 y212 l1 (l1.length : Int) (wrap64 (x10_1 + 1))) = some r := by first | (rw [hy212]; with_reducible exact H) | (have H2_ := (Option.bind_some _ _).symm.trans H; rw [hy212]; with_reducible exact H2_) | (have H2_ := (Option.bind_some _ _).symm.trans H; with_reducible exact H2_) | with_reducible exact H | (rw [hy212]; exact H) | exact H
         have Ny212 := Aside0.mk hy212
         clear hy212
         have H' := Aside0.mk H
         clear H
         have p191 : 0 ≤ (x10_1 : Int) := of_decide_eq_true (by assumption)
         have q191 : x10_1 < (l1.length : Int) := of_decide_eq_true (by assumption)
         obtain ⟨ad191, A191_2, c191_2, A191_3, c191_3, e191, hx191_0, hx191_1, hx191_2, hx191_3, hl191_2, hi191_2, hl191_3, hi191_3⟩ := at_T95 HR1.out x10_1 p191 q191
         cases e191
         replace hx191_0 := (HB.out.cell (World.block_lt_of_cell? w _ hx191_0)).trans hx191_0
         replace hx191_1 := (HB.out.cell (World.block_lt_of_cell? w _ hx191_1)).trans hx191_1
         replace hx191_2 := (HB.out.cell (World.block_lt_of_cell? w _ hx191_2)).trans hx191_2
         replace hx191_3 := (HB.out.cell (World.block_lt_of_cell? w _ hx191_3)).trans hx191_3
         have HR191_2 := Aside0.mk hi191_2
         have HC191_2 := Aside0.mk hl191_2
         clear hi191_2 hl191_2
         have HR191_3 := Aside0.mk hi191_3
         have HC191_3 := Aside0.mk hl191_3
         clear hi191_3 hl191_3
         replace p191 := eq_true p191
         replace q191 := eq_true q191
         go_wp2_with (first | ((with_reducible refine gate_dst (N := 7) rfl ?_); refine box_event ?hg (N := 7) ?hd (cs := #[.int .i64 0, .int .i64 0, .slice none 0 0, .slice none 0 0]) (t := 95) ?hr ?_; (case hd => rfl); (case hg => rfl); (case hr => first | (go_simp; done) | (go_simp; rfl)); intro gb192 hg w27 hbox hb; have n0_ := Aside0.mk (Kd.V_below (Kd.V_elderB (by (with_reducible repeat (first | apply Kd.V_alloc | apply Kd.V_drewN | apply Kd.V_drew)); exact HO_0.out) gb192 (Nat.le_of_eq hg.symm)) hb); have n1_ := Aside0.mk (Kd.N_below (Kd.N_elderB (by (with_reducible repeat (first | apply Kd.N_alloc | apply Kd.N_drewN | apply Kd.N_drew)); exact HO_5.out) gb192 (Nat.le_of_eq hg.symm)) hb); have n2_ := Aside0.mk (below_step (by with_reducible repeat first | exact HB.out | apply below_alloc | apply pw_below_drewN | apply below_drew1) hb); have n3_ := Aside0.mk (hbox); have n4_ := Aside0.mk ((by rw [hg]; exact (below_size (by with_reducible repeat first | exact HB.out | apply below_alloc | apply pw_below_drewN | apply below_drew1)) : w.heap.size ≤ gb192)); have n5_ := Aside0.mk ((by rw [hg]; exact (below_size (by with_reducible repeat first | exact HB.out | apply below_alloc | apply pw_below_drewN | apply below_drew1)) : w.heap.size ≤ gb192)); clear HO_0; clear HO_5; clear HB; have HO_0 := n0_; have HO_5 := n1_; have HB := n2_; have BK192 := n3_; have GW192 := n4_; have GE192 := n5_; clear n0_ n1_ n2_ n3_ n4_ n5_; clear hb hbox hg; have hcz28_0 : w27.cell? ⟨gb192, 0, none⟩ = some (.int .i64 0) := (blk_cell BK192.out 0).trans rfl; have hcz28_1 : w27.cell? ⟨gb192, 1, none⟩ = some (.int .i64 0) := (blk_cell BK192.out 1).trans rfl; have hcz28_2 : w27.cell? ⟨gb192, 2, none⟩ = some (.slice none 0 0) := (blk_cell BK192.out 2).trans rfl; have hcz28_3 : w27.cell? ⟨gb192, 3, none⟩ = some (.slice none 0 0) := (blk_cell BK192.out 3).trans rfl; have hfz28_0 := blk_frozen BK192.out 0; have hfz28_1 := blk_frozen BK192.out 1; have hfz28_2 := blk_frozen BK192.out 2; have hfz28_3 := blk_frozen BK192.out 3) | ((with_reducible refine gate_callee (f := 92) rfl ?_); refine goesL_ (some 40) rfl rfl Try.func92 (by kernel_rfl) rfl #[.slice A191_3 ((rd_T95 l1 x10_1).f3).length c191_3] rfl (by (try simp only [List.map_toArray, List.map_cons, List.map_nil]); first | done | rfl | (simp only [List.length_drop, List.length_take]; rfl)) ?_; (with_reducible refine (flow_Copy.calls k1 _ _ ((rd_T95 l1 x10_1).f3) t209 _ ?side1 ?side2 A25.out).mono ?_); (case side1 => exact Kd.C_below HR191_3.out (by repeat (first | (with_reducible first | exact HB.out | apply below_alloc | apply pw_below_drewN | apply below_drew1 | refine below_set ?_ GE192.out) | exact HB.out))); (case side2 => exact HC191_3.out); rintro e w29 ⟨v210, rfl, ho0, hb⟩; refine ⟨_, rfl, ?_⟩; have n0_ := Aside0.mk (Kd.V_elder' (by (with_reducible repeat (first | apply Kd.V_alloc | apply Kd.V_drewN | apply Kd.V_drew)); exact (Kd.V_mono (Kd.V_far (p := ⟨gb192, 3, none⟩) (Kd.V_far (p := ⟨gb192, 2, none⟩) (Kd.V_far (p := ⟨gb192, 1, none⟩) (Kd.V_far (p := ⟨gb192, 0, none⟩) (Kd.V_mono HO_0.out (fun k_ hk => (⟨hk, hk.2⟩ : _ ∧ k_ ≠ gb192))) (fun _ hk => hk.2) (.int .i64 ((rd_T95 l1 x10_1).f0))) (fun _ hk => hk.2) (.int .i64 ((rd_T95 l1 x10_1).f1))) (fun _ hk => hk.2) (.slice A191_2 ((rd_T95 l1 x10_1).f2).length c191_2)) (fun _ hk => hk.2) (.slice A191_3 ((rd_T95 l1 x10_1).f3).length c191_3)) (fun _ h_ => h_.1))) (Kd.N_base (by first | exact ho0 | exact Kd.S_N ho0)) hb); have n1_ := Aside0.mk (Kd.N_elder' (by (with_reducible repeat (first | apply Kd.N_alloc | apply Kd.N_drewN | apply Kd.N_drew)); exact (Kd.N_mono (Kd.N_far (p := ⟨gb192, 3, none⟩) (Kd.N_far (p := ⟨gb192, 2, none⟩) (Kd.N_far (p := ⟨gb192, 1, none⟩) (Kd.N_far (p := ⟨gb192, 0, none⟩) (Kd.N_mono HO_5.out (fun k_ hk => (⟨hk, hk.2⟩ : _ ∧ k_ ≠ gb192))) (fun _ hk => hk.2) (.int .i64 ((rd_T95 l1 x10_1).f0))) (fun _ hk => hk.2) (.int .i64 ((rd_T95 l1 x10_1).f1))) (fun _ hk => hk.2) (.slice A191_2 ((rd_T95 l1 x10_1).f2).length c191_2)) (fun _ hk => hk.2) (.slice A191_3 ((rd_T95 l1 x10_1).f3).length c191_3)) (fun _ h_ => h_.1))) (Kd.N_base (by first | exact ho0 | exact Kd.S_N ho0)) hb); have n2_ := Aside0.mk (Kd.N_lower (Kd.N_mono (ok' := fun k_ => (P0_ k_ ∨ w.heap.size ≤ k_) ∧ some k_ ≠ (u5 : Value).ownBlock ∧ k_ ≠ gb192) ho0 (fun k_ hk_ => ⟨(.inr (Nat.le_trans (below_size (by repeat (first | (with_reducible first | exact HB.out | apply below_alloc | apply pw_below_drewN | apply below_drew1 | refine below_set ?_ GE192.out) | exact HB.out))) hk_)), (Kd.fresh' (Kd.N_lt (by (with_reducible repeat (first | apply Kd.N_alloc | apply Kd.N_drewN | apply Kd.N_drew)); exact (Kd.N_mono (Kd.N_far (p := ⟨gb192, 3, none⟩) (Kd.N_far (p := ⟨gb192, 2, none⟩) (Kd.N_far (p := ⟨gb192, 1, none⟩) (Kd.N_far (p := ⟨gb192, 0, none⟩) (Kd.N_mono HO_5.out (fun k_ hk => (⟨hk, hk.2⟩ : _ ∧ k_ ≠ gb192))) (fun _ hk => hk.2) (.int .i64 ((rd_T95 l1 x10_1).f0))) (fun _ hk => hk.2) (.int .i64 ((rd_T95 l1 x10_1).f1))) (fun _ hk => hk.2) (.slice A191_2 ((rd_T95 l1 x10_1).f2).length c191_2)) (fun _ hk => hk.2) (.slice A191_3 ((rd_T95 l1 x10_1).f3).length c191_3)) (fun _ h_ => h_.1)))) k_ hk_), (Kd.freshB (g := gb192) (o := .cells #[.int .i64 ((rd_T95 l1 x10_1).f0), .int .i64 ((rd_T95 l1 x10_1).f1), .slice A191_2 ((rd_T95 l1 x10_1).f2).length c191_2, .slice A191_3 ((rd_T95 l1 x10_1).f3).length c191_3] 95 (0, 0)) (by (with_reducible repeat (first | refine blk_drewN ?_ _ | refine blk_drew ?_ | refine blk_alloc ?_ _)); refine blk_put (cs := #[.int .i64 ((rd_T95 l1 x10_1).f0), .int .i64 ((rd_T95 l1 x10_1).f1), .slice A191_2 ((rd_T95 l1 x10_1).f2).length c191_2, .slice none 0 0]) ?_ 3 _ rfl; (with_reducible repeat (first | refine blk_drewN ?_ _ | refine blk_drew ?_ | refine blk_alloc ?_ _)); refine blk_put (cs := #[.int .i64 ((rd_T95 l1 x10_1).f0), .int .i64 ((rd_T95 l1 x10_1).f1), .slice none 0 0, .slice none 0 0]) ?_ 2 _ rfl; (with_reducible repeat (first | refine blk_drewN ?_ _ | refine blk_drew ?_ | refine blk_alloc ?_ _)); refine blk_put (cs := #[.int .i64 ((rd_T95 l1 x10_1).f0), .int .i64 0, .slice none 0 0, .slice none 0 0]) ?_ 1 _ rfl; (with_reducible repeat (first | refine blk_drewN ?_ _ | refine blk_drew ?_ | refine blk_alloc ?_ _)); refine blk_put (cs := #[.int .i64 0, .int .i64 0, .slice none 0 0, .slice none 0 0]) ?_ 0 _ rfl; (with_reducible repeat (first | refine blk_drewN ?_ _ | refine blk_drew ?_ | refine blk_alloc ?_ _)); exact BK192.out) k_ hk_)⟩)) (below_size (by repeat (first | (with_reducible first | exact HB.out | apply below_alloc | apply pw_below_drewN | apply below_drew1 | refine below_set ?_ GE192.out) | exact HB.out)))); have n3_ := Aside0.mk (blk_below (g := gb192) (o := .cells #[.int .i64 ((rd_T95 l1 x10_1).f0), .int .i64 ((rd_T95 l1 x10_1).f1), .slice A191_2 ((rd_T95 l1 x10_1).f2).length c191_2, .slice A191_3 ((rd_T95 l1 x10_1).f3).length c191_3] 95 (0, 0)) (by (with_reducible repeat (first | refine blk_drewN ?_ _ | refine blk_drew ?_ | refine blk_alloc ?_ _)); refine blk_put (cs := #[.int .i64 ((rd_T95 l1 x10_1).f0), .int .i64 ((rd_T95 l1 x10_1).f1), .slice A191_2 ((rd_T95 l1 x10_1).f2).length c191_2, .slice none 0 0]) ?_ 3 _ rfl; (with_reducible repeat (first | refine blk_drewN ?_ _ | refine blk_drew ?_ | refine blk_alloc ?_ _)); refine blk_put (cs := #[.int .i64 ((rd_T95 l1 x10_1).f0), .int .i64 ((rd_T95 l1 x10_1).f1), .slice none 0 0, .slice none 0 0]) ?_ 2 _ rfl; (with_reducible repeat (first | refine blk_drewN ?_ _ | refine blk_drew ?_ | refine blk_alloc ?_ _)); refine blk_put (cs := #[.int .i64 ((rd_T95 l1 x10_1).f0), .int .i64 0, .slice none 0 0, .slice none 0 0]) ?_ 1 _ rfl; (with_reducible repeat (first | refine blk_drewN ?_ _ | refine blk_drew ?_ | refine blk_alloc ?_ _)); refine blk_put (cs := #[.int .i64 0, .int .i64 0, .slice none 0 0, .slice none 0 0]) ?_ 0 _ rfl; (with_reducible repeat (first | refine blk_drewN ?_ _ | refine blk_drew ?_ | refine blk_alloc ?_ _)); exact BK192.out) hb); have n4_ := Aside0.mk (below_step (by repeat (first | (with_reducible first | exact HB.out | apply below_alloc | apply pw_below_drewN | apply below_drew1 | refine below_set ?_ GE192.out) | exact HB.out)) hb); clear HO_0; clear HO_5; clear BK192; clear HB; have HO_0 := n0_; have HO_5 := n1_; have HO211 := n2_; have BK192 := n3_; have HB := n4_; clear n0_ n1_ n2_ n3_ n4_; (try clear hb); (try clear hb2); (try clear hk); (try clear hi); (try clear ho0); obtain ⟨Ao31, co31, eo31⟩ := Kd.N_slice HO211.out; subst eo31) | ((with_reducible refine gate_builtin (b := .append) (xs := #[.tmp 37, .tmp 40]) rfl ?_); at_builtin; refine Kd.N_append_rows k26 (w0 := w) w.heap.size rfl (.tmp 37) (.tmp 40) 22 26 (.agg #[(.int .i64 0), (.int .i64 0), (.slice none 0 0)]) 40 rfl Try.underlying22 info26 rfl (by decide) (by omega) u5 x5_1 t209 _ _ _ (fun k_ => (P0_ k_ ∨ w.heap.size ≤ k_) ∧ k_ ≠ gb192) (fun k_ => ((fun k_ => (P0_ k_ ∨ w.heap.size ≤ k_) ∧ k_ ≠ gb192)) k_ ∧ some k_ ≠ (u5 : Value).ownBlock) rfl rfl ?aO ?aR (fun _ hk => hk) ?aF ?aB ?aS ?aL ?_; (case aR => exact (by skip; exact Kd.N_F (Kd.N_mono (ok' := (fun k_ => ((fun k_ => (P0_ k_ ∨ w.heap.size ≤ k_) ∧ k_ ≠ gb192)) k_ ∧ some k_ ≠ (u5 : Value).ownBlock)) (HO211.out) (fun k_ hk => ⟨⟨hk.1, hk.2.2⟩, hk.2.1⟩)))); (case aB => exact (by repeat (first | (with_reducible first | exact HB.out | apply below_alloc | apply pw_below_drewN | apply below_drew1 | refine below_set ?_ GE192.out) | exact HB.out))); (case aF => exact (fun k_ hk => ⟨(.inr (Nat.le_trans (below_size (by repeat (first | (with_reducible first | exact HB.out | apply below_alloc | apply pw_below_drewN | apply below_drew1 | refine below_set ?_ GE192.out) | exact HB.out))) hk)), Kd.freshB (g := gb192) (o := .cells #[.int .i64 ((rd_T95 l1 x10_1).f0), .int .i64 ((rd_T95 l1 x10_1).f1), .slice A191_2 ((rd_T95 l1 x10_1).f2).length c191_2, .slice A191_3 ((rd_T95 l1 x10_1).f3).length c191_3] 95 (0, 0)) (by (with_reducible repeat (first | refine blk_drewN ?_ _ | refine blk_drew ?_ | refine blk_alloc ?_ _)); exact BK192.out) k_ hk⟩)); (case aO => exact (by (with_reducible repeat (first | apply Kd.N_alloc | apply Kd.N_drewN | apply Kd.N_drew)); exact Kd.N_mono HO_5.out (fun _ hk => ⟨hk.1.1, hk.1.2⟩))); (case aS => exact (below_size (by repeat (first | (with_reducible first | exact HB.out | apply below_alloc | apply pw_below_drewN | apply below_drew1 | refine below_set ?_ GE192.out) | exact HB.out)))); (case aL => have := LMc26.out; omega); intro v213 w30 ho hb hg hat; rw [← Ny212.out] at ho; have n0_ := Aside0.mk (Kd.V_afterv (ok := (fun k_ => (P0_ k_ ∨ w.heap.size ≤ k_) ∧ some k_ ≠ (.slice Ao31 t209.length co31 : Value).ownBlock ∧ k_ ≠ gb192)) (by (with_reducible repeat (first | apply Kd.V_alloc | apply Kd.V_drewN | apply Kd.V_drew)); exact Kd.V_mono HO_0.out (fun _ hk => ⟨⟨hk.1.1.1, ⟨hk.2, hk.1.2⟩⟩, hk.1.1.2⟩)) hg hat); have n1_ := Aside0.mk (blk_grown (g := gb192) (o := .cells #[.int .i64 ((rd_T95 l1 x10_1).f0), .int .i64 ((rd_T95 l1 x10_1).f1), .slice A191_2 ((rd_T95 l1 x10_1).f2).length c191_2, .slice A191_3 ((rd_T95 l1 x10_1).f3).length c191_3] 95 (0, 0)) (by (with_reducible repeat (first | refine blk_drewN ?_ _ | refine blk_drew ?_ | refine blk_alloc ?_ _)); exact BK192.out) hg (Kd.N_ne HO_5.out BK192.out (by decide))); have n2_ := Aside0.mk (Kd.N_afterv (ok := (fun k_ => (P0_ k_ ∨ w.heap.size ≤ k_) ∧ k_ ≠ gb192)) (by (with_reducible repeat (first | apply Kd.N_alloc | apply Kd.N_drewN | apply Kd.N_drew)); exact Kd.N_mono HO211.out (fun _ hk => ⟨⟨hk.1, hk.2.2⟩, hk.2.1⟩)) hg hat); have n3_ := Aside0.mk (hb); have n4_ := Aside0.mk (ho); clear HO_0; clear BK192; clear HO211; clear HB; clear HO_5; have HO_0 := n0_; have BK192 := n1_; have HO211 := n2_; have HB := n3_; have HO214 := n4_; clear n0_ n1_ n2_ n3_ n4_; clear ho hb hg hat))
         go_roundg k1
         case measure => have := HK1.out; omega
         case rel => exact ⟨(x0_1), (y212), (wrap64 (x10_1 + 1)), (by first | rfl | (simp; done) | (simp [*]; done)), H', ⟨by have := HK1.out; omega⟩, ⟨by (with_reducible repeat (first | apply Kd.V_alloc | apply Kd.V_drewN | apply Kd.V_drew)); exact Kd.V_mono HO_0.out (fun _ hk => ⟨hk.1.1, hk.2⟩)⟩, ⟨by (with_reducible repeat (first | apply Kd.N_alloc | apply Kd.N_drewN | apply Kd.N_drew)); exact Kd.N_mono HO214.out (fun _ hk => hk.1)⟩, ⟨by repeat (first | (with_reducible first | exact HB.out | apply below_alloc | apply pw_below_drewN | apply below_drew1 | refine below_set ?_ GE192.out) | exact HB.out)⟩⟩
        ·rw [if_neg c26] at H
         exact absurd H (by simp)
       ·rw [if_neg c24] at H
        have c24b0 : (((rd_T95 l1 x10_1).f0) == 1) = false := beq_eq_false_iff_ne.mpr c24
        have c24b1 : (((rd_T95 l1 x10_1).f0) != 1) = true := bne_iff_ne.mpr c24
        by_cases c32 : 0 ≤ ((rd_T95 l1 x10_1).f1)
        ·rw [if_pos c32] at H
         have c32b0 := eq_true c32
         have c32b1 : decide (0 ≤ ((rd_T95 l1 x10_1).f1)) = true := decide_eq_true c32
         clear c32
         by_cases c33 : ((rd_T95 l1 x10_1).f1) ≤ (x0_1.length : Int)
         ·rw [if_pos c33] at H
          have c33b0 := eq_true c33
          have c33b1 : decide (((rd_T95 l1 x10_1).f1) ≤ (x0_1.length : Int)) = true := decide_eq_true c33
          clear c33
          obtain ⟨y215, hy215⟩ : ∃ y_ : List (S26), y_ = (x0_1.drop (((rd_T95 l1 x10_1).f1) : Int).toNat) := ⟨_, rfl⟩
          replace H : (delta_Raw.l0 k1 y215 x5_1 l1 (l1.length : Int) (wrap64 (x10_1 + 1))) = some r := by first | (rw [hy215]; with_reducible exact H) | (have H2_ := (Option.bind_some _ _).symm.trans H; rw [hy215]; with_reducible exact H2_) | (have H2_ := (Option.bind_some _ _).symm.trans H; with_reducible exact H2_) | with_reducible exact H | (rw [hy215]; exact H) | exact H
          have Ny215 := Aside0.mk hy215
          clear hy215
          have H' := Aside0.mk H
          clear H
          have p191 : 0 ≤ (x10_1 : Int) := of_decide_eq_true (by assumption)
          have q191 : x10_1 < (l1.length : Int) := of_decide_eq_true (by assumption)
          obtain ⟨ad191, A191_2, c191_2, A191_3, c191_3, e191, hx191_0, hx191_1, hx191_2, hx191_3, hl191_2, hi191_2, hl191_3, hi191_3⟩ := at_T95 HR1.out x10_1 p191 q191
          cases e191
          replace hx191_0 := (HB.out.cell (World.block_lt_of_cell? w _ hx191_0)).trans hx191_0
          replace hx191_1 := (HB.out.cell (World.block_lt_of_cell? w _ hx191_1)).trans hx191_1
          replace hx191_2 := (HB.out.cell (World.block_lt_of_cell? w _ hx191_2)).trans hx191_2
          replace hx191_3 := (HB.out.cell (World.block_lt_of_cell? w _ hx191_3)).trans hx191_3
          have HR191_2 := Aside0.mk hi191_2
          have HC191_2 := Aside0.mk hl191_2
          clear hi191_2 hl191_2
          have HR191_3 := Aside0.mk hi191_3
          have HC191_3 := Aside0.mk hl191_3
          clear hi191_3 hl191_3
          replace p191 := eq_true p191
          replace q191 := eq_true q191
          go_wp2_with (first | ((with_reducible refine gate_dst (N := 7) rfl ?_); refine box_event ?hg (N := 7) ?hd (cs := #[.int .i64 0, .int .i64 0, .slice none 0 0, .slice none 0 0]) (t := 95) ?hr ?_; (case hd => rfl); (case hg => rfl); (case hr => first | (go_simp; done) | (go_simp; rfl)); intro gb192 hg w34 hbox hb; have n0_ := Aside0.mk (Kd.V_below (Kd.V_elderB (by (with_reducible repeat (first | apply Kd.V_alloc | apply Kd.V_drewN | apply Kd.V_drew)); exact HO_0.out) gb192 (Nat.le_of_eq hg.symm)) hb); have n1_ := Aside0.mk (Kd.N_below (Kd.N_elderB (by (with_reducible repeat (first | apply Kd.N_alloc | apply Kd.N_drewN | apply Kd.N_drew)); exact HO_5.out) gb192 (Nat.le_of_eq hg.symm)) hb); have n2_ := Aside0.mk (below_step (by with_reducible repeat first | exact HB.out | apply below_alloc | apply pw_below_drewN | apply below_drew1) hb); have n3_ := Aside0.mk (hbox); have n4_ := Aside0.mk ((by rw [hg]; exact (below_size (by with_reducible repeat first | exact HB.out | apply below_alloc | apply pw_below_drewN | apply below_drew1)) : w.heap.size ≤ gb192)); have n5_ := Aside0.mk ((by rw [hg]; exact (below_size (by with_reducible repeat first | exact HB.out | apply below_alloc | apply pw_below_drewN | apply below_drew1)) : w.heap.size ≤ gb192)); clear HO_0; clear HO_5; clear HB; have HO_0 := n0_; have HO_5 := n1_; have HB := n2_; have BK192 := n3_; have GW192 := n4_; have GE192 := n5_; clear n0_ n1_ n2_ n3_ n4_ n5_; clear hb hbox hg; have hcz35_0 : w34.cell? ⟨gb192, 0, none⟩ = some (.int .i64 0) := (blk_cell BK192.out 0).trans rfl; have hcz35_1 : w34.cell? ⟨gb192, 1, none⟩ = some (.int .i64 0) := (blk_cell BK192.out 1).trans rfl; have hcz35_2 : w34.cell? ⟨gb192, 2, none⟩ = some (.slice none 0 0) := (blk_cell BK192.out 2).trans rfl; have hcz35_3 : w34.cell? ⟨gb192, 3, none⟩ = some (.slice none 0 0) := (blk_cell BK192.out 3).trans rfl; have hfz35_0 := blk_frozen BK192.out 0; have hfz35_1 := blk_frozen BK192.out 1; have hfz35_2 := blk_frozen BK192.out 2; have hfz35_3 := blk_frozen BK192.out 3) | ((with_reducible refine gate_store (t := 95) (p := 7) rfl ?_); refine store_event (t := 95) (p := 7) (v := ?vo_w36) (w1 := ((((w34.setCell ⟨gb192, 0, none⟩ (.int .i64 ((rd_T95 l1 x10_1).f0))).setCell ⟨gb192, 1, none⟩ (.int .i64 ((rd_T95 l1 x10_1).f1))).setCell ⟨gb192, 2, none⟩ (.slice A191_2 ((rd_T95 l1 x10_1).f2).length c191_2)).setCell ⟨gb192, 3, none⟩ (.slice A191_3 ((rd_T95 l1 x10_1).f3).length c191_3))) ?hg ?ho ?hn ?hr ?_; (case ho => rfl); (case hg => rfl); (case hn => rfl); (case hr => first | (go_simp; done) | (go_simp; rfl)); intro w36 hw; have n0_ : Aside0 (Kd.V k26 26 w36 w.heap.size (fun k_ => (P0_ k_ ∨ w.heap.size ≤ k_) ∧ some k_ ≠ (u5 : Value).ownBlock ∧ k_ ≠ gb192) u0 x0_1) := ⟨(by rw [hw]; exact (by (with_reducible repeat (first | apply Kd.V_alloc | apply Kd.V_drewN | apply Kd.V_drew)); exact Kd.V_mono (Kd.V_far (p := ⟨gb192, 3, none⟩) (Kd.V_far (p := ⟨gb192, 2, none⟩) (Kd.V_far (p := ⟨gb192, 1, none⟩) (Kd.V_far (p := ⟨gb192, 0, none⟩) (Kd.V_mono HO_0.out (fun k_ hk => (⟨hk, hk.2⟩ : _ ∧ k_ ≠ gb192))) (fun _ hk => hk.2) (.int .i64 ((rd_T95 l1 x10_1).f0))) (fun _ hk => hk.2) (.int .i64 ((rd_T95 l1 x10_1).f1))) (fun _ hk => hk.2) (.slice A191_2 ((rd_T95 l1 x10_1).f2).length c191_2)) (fun _ hk => hk.2) (.slice A191_3 ((rd_T95 l1 x10_1).f3).length c191_3)) (fun _ hk => ⟨hk.1.1.1, ⟨hk.1.1.2, hk.1.2⟩⟩)))⟩; have n1_ : Aside0 (Kd.N k26 26 w36 w.heap.size (fun k_ => (P0_ k_ ∨ w.heap.size ≤ k_) ∧ k_ ≠ gb192) u5 x5_1) := ⟨(by rw [hw]; exact (by (with_reducible repeat (first | apply Kd.N_alloc | apply Kd.N_drewN | apply Kd.N_drew)); exact Kd.N_mono (Kd.N_far (p := ⟨gb192, 3, none⟩) (Kd.N_far (p := ⟨gb192, 2, none⟩) (Kd.N_far (p := ⟨gb192, 1, none⟩) (Kd.N_far (p := ⟨gb192, 0, none⟩) (Kd.N_mono HO_5.out (fun k_ hk => (⟨hk, hk.2⟩ : _ ∧ k_ ≠ gb192))) (fun _ hk => hk.2) (.int .i64 ((rd_T95 l1 x10_1).f0))) (fun _ hk => hk.2) (.int .i64 ((rd_T95 l1 x10_1).f1))) (fun _ hk => hk.2) (.slice A191_2 ((rd_T95 l1 x10_1).f2).length c191_2)) (fun _ hk => hk.2) (.slice A191_3 ((rd_T95 l1 x10_1).f3).length c191_3)) (fun _ hk => ⟨hk.1.1, hk.1.2⟩)))⟩; have n2_ : Aside0 (w36.heap[gb192]? = some (.cells #[.int .i64 ((rd_T95 l1 x10_1).f0), .int .i64 ((rd_T95 l1 x10_1).f1), .slice A191_2 ((rd_T95 l1 x10_1).f2).length c191_2, .slice A191_3 ((rd_T95 l1 x10_1).f3).length c191_3] 95 (0, 0))) := ⟨(by rw [hw]; exact (by (with_reducible repeat (first | refine blk_drewN ?_ _ | refine blk_drew ?_ | refine blk_alloc ?_ _)); refine blk_put (cs := #[.int .i64 ((rd_T95 l1 x10_1).f0), .int .i64 ((rd_T95 l1 x10_1).f1), .slice A191_2 ((rd_T95 l1 x10_1).f2).length c191_2, .slice none 0 0]) ?_ 3 _ rfl; (with_reducible repeat (first | refine blk_drewN ?_ _ | refine blk_drew ?_ | refine blk_alloc ?_ _)); refine blk_put (cs := #[.int .i64 ((rd_T95 l1 x10_1).f0), .int .i64 ((rd_T95 l1 x10_1).f1), .slice none 0 0, .slice none 0 0]) ?_ 2 _ rfl; (with_reducible repeat (first | refine blk_drewN ?_ _ | refine blk_drew ?_ | refine blk_alloc ?_ _)); refine blk_put (cs := #[.int .i64 ((rd_T95 l1 x10_1).f0), .int .i64 0, .slice none 0 0, .slice none 0 0]) ?_ 1 _ rfl; (with_reducible repeat (first | refine blk_drewN ?_ _ | refine blk_drew ?_ | refine blk_alloc ?_ _)); refine blk_put (cs := #[.int .i64 0, .int .i64 0, .slice none 0 0, .slice none 0 0]) ?_ 0 _ rfl; (with_reducible repeat (first | refine blk_drewN ?_ _ | refine blk_drew ?_ | refine blk_alloc ?_ _)); exact BK192.out))⟩; have n3_ : Aside0 (Below w.heap.size w w36) := ⟨(by rw [hw]; exact (by repeat (first | (with_reducible first | exact HB.out | apply below_alloc | apply pw_below_drewN | apply below_drew1 | refine below_set ?_ GE192.out) | exact HB.out)))⟩; clear hw; clear HO_0; clear HO_5; clear BK192; clear HB; have HO_0 := n0_; have HO_5 := n1_; have BK192 := n2_; have HB := n3_; clear n0_ n1_ n2_ n3_; have hcz37_0 : w36.cell? ⟨gb192, 0, none⟩ = some (.int .i64 ((rd_T95 l1 x10_1).f0)) := (blk_cell BK192.out 0).trans rfl; have hcz37_1 : w36.cell? ⟨gb192, 1, none⟩ = some (.int .i64 ((rd_T95 l1 x10_1).f1)) := (blk_cell BK192.out 1).trans rfl; have hcz37_2 : w36.cell? ⟨gb192, 2, none⟩ = some (.slice A191_2 ((rd_T95 l1 x10_1).f2).length c191_2) := (blk_cell BK192.out 2).trans rfl; have hcz37_3 : w36.cell? ⟨gb192, 3, none⟩ = some (.slice A191_3 ((rd_T95 l1 x10_1).f3).length c191_3) := (blk_cell BK192.out 3).trans rfl; have hfz37_0 := blk_frozen BK192.out 0; have hfz37_1 := blk_frozen BK192.out 1; have hfz37_2 := blk_frozen BK192.out 2; have hfz37_3 := blk_frozen BK192.out 3; obtain ⟨Ao39, co39, eo39⟩ := Kd.V_slice HO_0.out; subst eo39; have q38 : (((rd_T95 l1 x10_1).f1) : Int) ≤ ((x0_1.length : Int) : Int) := of_decide_eq_true (by assumption); obtain ⟨i038, hi038, _, hsz38, _⟩ := info_parts info26; have hroom38 : x0_1.length ≤ co39 := (Kd.V_reads' HO_0.out).2.1; have hC38 : Kd.F k26 _ _ Ao39 x0_1.length x0_1 := (Kd.V_at (base := w.heap.size) HO_0.out).2.2; have q038 : (0 : Int) ≤ (((rd_T95 l1 x10_1).f1) : Int) := of_decide_eq_true (by assumption); have hcut38 := cut_from (P := Try.prog) 22 26 .i64 Try.underlying22 hi038 3 hsz38 Ao39 x0_1.length co39 ((rd_T95 l1 x10_1).f1) q038 q38; have hr38 := Kd.F_cut (m := (((rd_T95 l1 x10_1).f1) : Int).toNat) (c := co39) hC38 (by omega) hroom38; obtain ⟨A38, hA38⟩ : ∃ A1, A1 = (if co39 = (((rd_T95 l1 x10_1).f1) : Int).toNat then Ao39 else (Ao39 : Option Addr).map (·.add ((((rd_T95 l1 x10_1).f1) : Int).toNat * 3))) := ⟨_, rfl⟩; obtain ⟨c38, hc38⟩ : ∃ c1, c1 = co39 - (((rd_T95 l1 x10_1).f1) : Int).toNat := ⟨_, rfl⟩; have hy38 : y215.length = x0_1.length - (((rd_T95 l1 x10_1).f1) : Int).toNat := (by rw [Ny215.out, List.length_drop] <;> omega); rw [show (x0_1).drop (((rd_T95 l1 x10_1).f1) : Int).toNat = y215 from Ny215.out.symm] at hr38; replace hr38 : Kd.F k26 _ _ A38 y215.length y215 := (by rw [hA38]; exact hr38); rw [← hy38, ← hA38, ← hc38] at hcut38; have HO219 := Aside0.mk (show Kd.V k26 26 _ w.heap.size _ (.slice A38 y215.length c38) y215 from Kd.V_mk (by rw [hy38, hc38]; exact Nat.sub_le_sub_right hroom38 _) hr38); have HC219 := Aside0.mk (show y215.length ≤ c38 from by rw [hy38, hc38]; exact Nat.sub_le_sub_right hroom38 _); clear hr38 hC38 hroom38 hi038 hsz38 hc38; have KY38 := Aside0.mk hy38; have KA38 := Aside0.mk hA38; clear hy38 hA38; replace q38 := eq_true q38))
          go_roundg k1
          case measure => have := HK1.out; omega
          case rel => exact ⟨(y215), (x5_1), (wrap64 (x10_1 + 1)), (by first | rfl | (simp; done) | (simp [*]; done)), H', ⟨by have := HK1.out; omega⟩, ⟨by (with_reducible repeat (first | apply Kd.V_alloc | apply Kd.V_drewN | apply Kd.V_drew)); exact Kd.V_mono HO219.out (fun _ hk => ⟨hk.1, hk.2.1⟩)⟩, ⟨by (with_reducible repeat (first | apply Kd.N_alloc | apply Kd.N_drewN | apply Kd.N_drew)); exact Kd.N_mono HO_5.out (fun _ hk => hk.1)⟩, ⟨by repeat (first | (with_reducible first | exact HB.out | apply below_alloc | apply pw_below_drewN | apply below_drew1 | refine below_set ?_ GE192.out) | exact HB.out)⟩⟩
         ·rw [if_neg c33] at H
          exact absurd H (by simp)
        ·rw [if_neg c32] at H
         exact absurd H (by simp)
     ·rw [if_neg c5] at H
      exact absurd H (by simp)
    ·rw [if_neg c4] at H
     exact absurd H (by simp)
   ·rw [if_neg c3] at H
    have c3b0 : decide (x10_1 < (l1.length : Int)) = false := decide_eq_false c3
    clear c3
    obtain rfl := Option.some.inj H
    go_wp2
    go_ret
    exact ⟨_, by first | rfl | (simp [errW_none, errW_some] <;> rfl) | (simp [*, errW_none, errW_some] <;> rfl), by (with_reducible repeat (first | apply Kd.N_alloc | apply Kd.N_drewN | apply Kd.N_drew)); exact HO_5.out, by repeat (first | (with_reducible first | exact HB.out | apply below_alloc | apply pw_below_drewN | apply below_drew1) | exact HB.out)⟩
def delta_Apply.f (k : Nat) (l0 : List (S26)) (l1 : List (S95)) : Option ((List (S26)) × Int) := (delta_fits.f k l0 l1).bind fun t220 => (if t220 = 0 then ((delta_Raw.f k l0 l1).bind fun t221 => (some (t221, 0))) else (some (([] : List (S26)), t220)))
set_option maxHeartbeats 8000000 in
set_option maxRecDepth 100000 in
theorem delta_Apply.calls (k : Nat) (P0_ : Nat → Prop) (A0 : Option Addr) (c0 : Nat) (l0 : List (S26)) (A1 : Option Addr) (c1 : Nat) (l1 : List (S95)) (r1 : List (S26)) (r2 : Int) (w : World) (hs0 : Kd.V k26 26 w w.heap.size (fun k_ => P0_ k_) (.slice A0 l0.length c0) l0) (hr1 : Kd.C k95 w A1 l1.length l1) (hc1 : l1.length ≤ c1) (h : delta_Apply.f k l0 l1 = some (r1, r2)) :
  Calls Try.prog 22 #[.slice A0 l0.length c0, .slice A1 l1.length c1] w fun e w' => ∃ v0_ : Value, e = .returned (.tuple #[v0_, .int .i64 r2]) ∧ Kd.N k26 26 w' w.heap.size (fun k_ => (P0_ k_ ∨ w.heap.size ≤ k_)) v0_ r1 ∧ Below w.heap.size w w' := by
 have HO0 := Aside0.mk (show Kd.V k26 26 w w.heap.size (fun k_ => (P0_ k_ ∨ w.heap.size ≤ k_)) (.slice A0 l0.length c0) l0 from Kd.V_mono hs0 (fun k_ hk => .inl hk))
 have HR1 := Aside0.mk hr1
 have HC1 := Aside0.mk hc1
 clear hr1 hc1
 have HB := Aside0.mk (Below.refl w.heap.size w)
 have H : ((delta_fits.f k l0 l1).bind fun t220 => (if t220 = 0 then ((delta_Raw.f k l0 l1).bind fun t221 => (some (t221, 0))) else (some (([] : List (S26)), t220)))) = some (r1, r2) := h
 clear h
 replace H := Option.bind_eq_some_iff.mp H
 obtain ⟨t220, A30, H⟩ := H
 replace H : (if t220 = 0 then ((delta_Raw.f k l0 l1).bind fun t221 => (some (t221, 0))) else (some (([] : List (S26)), t220))) = some (r1, r2) := H
 have A3 := Aside0.mk A30
 clear A30
 by_cases c4 : t220 = 0
 ·rw [if_pos c4] at H
  have c4b0 : (t220 == 0) = true := beq_iff_eq.mpr c4
  have c4b1 : (t220 != 0) = false := bne_eq_false_iff_eq.mpr c4
  clear c4
  replace H := Option.bind_eq_some_iff.mp H
  obtain ⟨t221, A50, H⟩ := H
  replace H : (some (t221, 0)) = some (r1, r2) := H
  have A5 := Aside0.mk A50
  clear A50
  simp only [Option.some.injEq, Prod.mk.injEq] at H
  obtain ⟨rfl, rfl⟩ := H
  go_enter Try.func22, Try.ntmps22
  go_wp2_with (first | ((with_reducible refine gate_callee (f := 55) rfl ?_); refine goesL_ (some 9) rfl rfl Try.func55 (by kernel_rfl) rfl #[.slice A0 l0.length c0, .slice A1 l1.length c1] rfl (by (try simp only [List.map_toArray, List.map_cons, List.map_nil]); first | done | rfl | (simp only [List.length_drop, List.length_take]; rfl)) ?_; (with_reducible refine (delta_fits.calls k _ _ l0 _ _ l1 t220 _ ?side1 ?side2 ?side3 ?side4 A3.out).mono ?_); (case side1 => repeat (first | exact (Kd.V_reads' HO0.out).2.2 | (with_reducible refine Kd.C_alloc ?_ _) | (with_reducible refine Kd.C_drewN ?_ _) | (with_reducible refine Kd.C_drew ?_))); (case side2 => exact (Kd.V_reads' HO0.out).2.1); (case side3 => repeat (first | exact HR1.out | (with_reducible refine Kd.C_alloc ?_ _) | (with_reducible refine Kd.C_drewN ?_ _) | (with_reducible refine Kd.C_drew ?_))); (case side4 => exact HC1.out); rintro e w6 ⟨rfl, hb⟩; refine ⟨_, rfl, ?_⟩; have n0_ := Aside0.mk (Kd.V_below (by (with_reducible repeat (first | apply Kd.V_alloc | apply Kd.V_drewN | apply Kd.V_drew)); exact HO0.out) hb); have n1_ := Aside0.mk (below_step (by with_reducible repeat first | exact HB.out | apply below_alloc | apply pw_below_drewN | apply below_drew1) hb); clear HO0; clear HB; have HO0 := n0_; have HB := n1_; clear n0_ n1_; (try clear hb); (try clear hb2); (try clear hk); (try clear hi)) | ((with_reducible refine gate_callee (f := 56) rfl ?_); refine goesL_ (some 15) rfl rfl Try.func56 (by kernel_rfl) rfl #[.slice A0 l0.length c0, .slice A1 l1.length c1] rfl (by (try simp only [List.map_toArray, List.map_cons, List.map_nil]); first | done | rfl | (simp only [List.length_drop, List.length_take]; rfl)) ?_; (with_reducible refine (delta_Raw.calls k (fun k_ => (P0_ k_ ∨ w.heap.size ≤ k_)) _ _ l0 _ _ l1 t221 _ ?side1 ?side2 ?side3 A5.out).mono ?_); (case side1 => exact HO0.out); (case side2 => repeat (first | exact (Kd.C_below HR1.out HB.out) | (with_reducible refine Kd.C_alloc ?_ _) | (with_reducible refine Kd.C_drewN ?_ _) | (with_reducible refine Kd.C_drew ?_))); (case side3 => exact HC1.out); rintro e w7 ⟨v222, rfl, ho0, hb⟩; refine ⟨_, rfl, ?_⟩; have n0_ := Aside0.mk (Kd.V_elder' (by (with_reducible repeat (first | apply Kd.V_alloc | apply Kd.V_drewN | apply Kd.V_drew)); exact HO0.out) (Kd.N_base (by first | exact ho0 | exact Kd.S_N ho0)) hb); have n1_ := Aside0.mk (Kd.N_lower (Kd.N_mono (ok' := fun k_ => (P0_ k_ ∨ w.heap.size ≤ k_)) ho0 (fun k_ hk_ => Or.elim hk_ (fun hs_ => hs_) (fun hn_ => (.inr (Nat.le_trans (below_size (by with_reducible repeat first | exact HB.out | apply below_alloc | apply pw_below_drewN | apply below_drew1)) hn_))))) (below_size (by with_reducible repeat first | exact HB.out | apply below_alloc | apply pw_below_drewN | apply below_drew1))); have n2_ := Aside0.mk (below_step (by with_reducible repeat first | exact HB.out | apply below_alloc | apply pw_below_drewN | apply below_drew1) hb); clear HO0; clear HB; have HO0 := n0_; have HO223 := n1_; have HB := n2_; clear n0_ n1_ n2_; (try clear hb); (try clear hb2); (try clear hk); (try clear hi); (try clear ho0)))
  go_ret2
  exact ⟨_, by first | rfl | (simp [errW_none, errW_some] <;> rfl) | (simp [*, errW_none, errW_some] <;> rfl), by (with_reducible repeat (first | apply Kd.N_alloc | apply Kd.N_drewN | apply Kd.N_drew)); exact HO223.out, by repeat (first | (with_reducible first | exact HB.out | apply below_alloc | apply pw_below_drewN | apply below_drew1) | exact HB.out)⟩
 ·rw [if_neg c4] at H
  have c4b0 : (t220 == 0) = false := beq_eq_false_iff_ne.mpr c4
  have c4b1 : (t220 != 0) = true := bne_iff_ne.mpr c4
  simp only [Option.some.injEq, Prod.mk.injEq] at H
  obtain ⟨rfl, rfl⟩ := H
  go_enter Try.func22, Try.ntmps22
  go_wp2_with (first | ((with_reducible refine gate_callee (f := 55) rfl ?_); refine goesL_ (some 9) rfl rfl Try.func55 (by kernel_rfl) rfl #[.slice A0 l0.length c0, .slice A1 l1.length c1] rfl (by (try simp only [List.map_toArray, List.map_cons, List.map_nil]); first | done | rfl | (simp only [List.length_drop, List.length_take]; rfl)) ?_; (with_reducible refine (delta_fits.calls k _ _ l0 _ _ l1 t220 _ ?side1 ?side2 ?side3 ?side4 A3.out).mono ?_); (case side1 => repeat (first | exact (Kd.V_reads' HO0.out).2.2 | (with_reducible refine Kd.C_alloc ?_ _) | (with_reducible refine Kd.C_drewN ?_ _) | (with_reducible refine Kd.C_drew ?_))); (case side2 => exact (Kd.V_reads' HO0.out).2.1); (case side3 => repeat (first | exact HR1.out | (with_reducible refine Kd.C_alloc ?_ _) | (with_reducible refine Kd.C_drewN ?_ _) | (with_reducible refine Kd.C_drew ?_))); (case side4 => exact HC1.out); rintro e w8 ⟨rfl, hb⟩; refine ⟨_, rfl, ?_⟩; have n0_ := Aside0.mk (Kd.V_below (by (with_reducible repeat (first | apply Kd.V_alloc | apply Kd.V_drewN | apply Kd.V_drew)); exact HO0.out) hb); have n1_ := Aside0.mk (below_step (by with_reducible repeat first | exact HB.out | apply below_alloc | apply pw_below_drewN | apply below_drew1) hb); clear HO0; clear HB; have HO0 := n0_; have HB := n1_; clear n0_ n1_; (try clear hb); (try clear hb2); (try clear hk); (try clear hi)))
  go_ret2
  exact ⟨_, by first | rfl | (simp [errW_none, errW_some] <;> rfl) | (simp [*, errW_none, errW_some] <;> rfl), by first | exact Kd.S_nil _ _ _ _ _ | exact Kd.N_nil _ _ _ _ _ | exact Kd.V_nil _ _ _ _ _ | exact Kd.Q_nil _ _ _ _ _ | exact Kd.R_nil _ _ _ _ _, by repeat (first | (with_reducible first | exact HB.out | apply below_alloc | apply pw_below_drewN | apply below_drew1) | exact HB.out)⟩
def chanceryref1_SameAttrs.l0 : Nat → List (S91) → List (S91) → Int → Int → Option (Bool)
 | 0, _, _, _, _ => none
 | k + 1, x0, x1, x12, x13 => if x13 < x12 then (if 0 ≤ x13 then (if x13 < (x0.length : Int) then (if x13 < (x1.length : Int) then (if (!((((rd_T91 x0 x13).f0).toList) == (((rd_T91 x1 x13).f0).toList)) || (!((((rd_T91 x0 x13).f1).toList) == (((rd_T91 x1 x13).f1).toList)))) = true then (some false) else (chanceryref1_SameAttrs.l0 k x0 x1 x12 (wrap64 (x13 + 1)))) else (none)) else (none)) else (none)) else (some true)
def chanceryref1_SameAttrs.f (k : Nat) (l0 : List (S91)) (l1 : List (S91)) : Option (Bool) := if (l0.length : Int) = (l1.length : Int) then (chanceryref1_SameAttrs.l0 k l0 l1 (l0.length : Int) 0) else (some false)
set_option maxHeartbeats 8000000 in
set_option maxRecDepth 100000 in
theorem chanceryref1_SameAttrs.calls (k : Nat) (A0 : Option Addr) (c0 : Nat) (l0 : List (S91)) (A1 : Option Addr) (c1 : Nat) (l1 : List (S91)) (r : Bool) (w : World) (hr0 : Kd.C k91 w A0 l0.length l0) (hc0 : l0.length ≤ c0) (hr1 : Kd.C k91 w A1 l1.length l1) (hc1 : l1.length ≤ c1) (h : chanceryref1_SameAttrs.f k l0 l1 = some r) :
  Calls Try.prog 65 #[.slice A0 l0.length c0, .slice A1 l1.length c1] w fun e w' => e = .returned (.bool r) ∧ Drawn0 w w' := by
 have hu91 := Try.underlying91
 have HR0 := Aside0.mk hr0
 have HC0 := Aside0.mk hc0
 clear hr0 hc0
 have HR1 := Aside0.mk hr1
 have HC1 := Aside0.mk hc1
 clear hr1 hc1
 have H : (if (l0.length : Int) = (l1.length : Int) then (chanceryref1_SameAttrs.l0 k l0 l1 (l0.length : Int) 0) else (some false)) = some r := h
 clear h
 by_cases c3 : (l0.length : Int) = (l1.length : Int)
 ·rw [if_pos c3] at H
  have c3b0 : ((l0.length : Int) == (l1.length : Int)) = true := beq_iff_eq.mpr c3
  have c3b1 : ((l0.length : Int) != (l1.length : Int)) = false := bne_eq_false_iff_eq.mpr c3
  have c3b2 : (l0.length == l1.length) = true := by first | simpa using c3 | (simp at c3 ⊢; omega)
  clear c3
  have H' := Aside0.mk H
  clear H
  go_enter Try.func65, Try.ntmps65
  go_wp2
  repeat (go_quiet (fail); try go_wp2)
  go_loopg [13] k (fun kq v13 w' => ∃ (x13_1 : Int), v13 = .int .i64 x13_1 ∧ Aside0 (chanceryref1_SameAttrs.l0 kq l0 l1 (l0.length : Int) x13_1 = some r) ∧ Aside0 (kq ≤ k) ∧ Drawn0 w w')
  case atStart => exact ⟨(0), (by first | rfl | (simp; done) | (simp [*]; done)), H', ⟨Nat.le_refl _⟩, by repeat (first | exact Drawn0.refl _ | apply Drawn0.step)⟩
  case round =>
   clear H'
   try clear c1
   try clear p2
   try clear c3
   try clear c3b0
   try clear c3b1
   try clear c3b2
   obtain ⟨x13_1, rfl, HA, HK1, ⟨m1, rfl⟩⟩ := hrel
   cases gk with
   | zero => exact absurd HA.out (by simp [chanceryref1_SameAttrs.l0])
   | succ k1 =>
    have H := HA.out
    clear HA
    simp only [chanceryref1_SameAttrs.l0] at H
    by_cases c4 : x13_1 < (l0.length : Int)
    ·rw [if_pos c4] at H
     have c4b0 : decide (x13_1 < (l0.length : Int)) = true := decide_eq_true c4
     clear c4
     by_cases c5 : 0 ≤ x13_1
     ·rw [if_pos c5] at H
      have c5b0 : decide (0 ≤ x13_1) = true := decide_eq_true c5
      clear c5
      by_cases c6 : x13_1 < (l0.length : Int)
      ·rw [if_pos c6] at H
       have c6b0 : decide (x13_1 < (l0.length : Int)) = true := decide_eq_true c6
       clear c6
       by_cases c7 : x13_1 < (l1.length : Int)
       ·rw [if_pos c7] at H
        have c7b0 : decide (x13_1 < (l1.length : Int)) = true := decide_eq_true c7
        clear c7
        by_cases c8 : (!((((rd_T91 l0 x13_1).f0).toList) == (((rd_T91 l1 x13_1).f0).toList)) || (!((((rd_T91 l0 x13_1).f1).toList) == (((rd_T91 l1 x13_1).f1).toList)))) = true
        ·rw [if_pos c8] at H
         have c8b0 : (!((((rd_T91 l0 x13_1).f0).toList) == (((rd_T91 l1 x13_1).f0).toList)) || (!((((rd_T91 l0 x13_1).f1).toList) == (((rd_T91 l1 x13_1).f1).toList)))) = true := c8
         clear c8
         obtain rfl := Option.some.inj H
         have p224 : 0 ≤ (x13_1 : Int) := of_decide_eq_true (by assumption)
         have q224 : x13_1 < (l0.length : Int) := of_decide_eq_true (by assumption)
         obtain ⟨ad224, e224, hx224_0, hx224_1⟩ := at_T91 HR0.out x13_1 p224 q224
         cases e224
         replace p224 := eq_true p224
         replace q224 := eq_true q224
         have p225 : 0 ≤ (x13_1 : Int) := of_decide_eq_true (by assumption)
         have q225 : x13_1 < (l1.length : Int) := of_decide_eq_true (by assumption)
         obtain ⟨ad225, e225, hx225_0, hx225_1⟩ := at_T91 HR1.out x13_1 p225 q225
         cases e225
         replace p225 := eq_true p225
         replace q225 := eq_true q225
         go_wp2
         repeat (go_quiet (fail); try go_wp2)
         go_ret
         exact ⟨by first | rfl | (simp; done) | (simp [*]; done), by repeat (first | exact Drawn0.refl _ | apply Drawn0.step)⟩
        ·rw [if_neg c8] at H
         have c8b0 : (!((((rd_T91 l0 x13_1).f0).toList) == (((rd_T91 l1 x13_1).f0).toList)) || (!((((rd_T91 l0 x13_1).f1).toList) == (((rd_T91 l1 x13_1).f1).toList)))) = false := by simpa using c8
         clear c8
         have H' := Aside0.mk H
         clear H
         have p224 : 0 ≤ (x13_1 : Int) := of_decide_eq_true (by assumption)
         have q224 : x13_1 < (l0.length : Int) := of_decide_eq_true (by assumption)
         obtain ⟨ad224, e224, hx224_0, hx224_1⟩ := at_T91 HR0.out x13_1 p224 q224
         cases e224
         replace p224 := eq_true p224
         replace q224 := eq_true q224
         have p225 : 0 ≤ (x13_1 : Int) := of_decide_eq_true (by assumption)
         have q225 : x13_1 < (l1.length : Int) := of_decide_eq_true (by assumption)
         obtain ⟨ad225, e225, hx225_0, hx225_1⟩ := at_T91 HR1.out x13_1 p225 q225
         cases e225
         replace p225 := eq_true p225
         replace q225 := eq_true q225
         go_wp2
         repeat (go_quiet (fail); try go_wp2)
         go_roundg k1
         case measure => have := HK1.out; omega
         case rel => exact ⟨(wrap64 (x13_1 + 1)), (by first | rfl | (simp; done) | (simp [*]; done)), H', ⟨by have := HK1.out; omega⟩, by repeat (first | exact Drawn0.refl _ | apply Drawn0.step)⟩
       ·rw [if_neg c7] at H
        exact absurd H (by simp)
      ·rw [if_neg c6] at H
       exact absurd H (by simp)
     ·rw [if_neg c5] at H
      exact absurd H (by simp)
    ·rw [if_neg c4] at H
     have c4b0 : decide (x13_1 < (l0.length : Int)) = false := decide_eq_false c4
     clear c4
     obtain rfl := Option.some.inj H
     go_wp2
     repeat (go_quiet (fail); try go_wp2)
     go_ret
     exact ⟨by first | rfl | (simp; done) | (simp [*]; done), by repeat (first | exact Drawn0.refl _ | apply Drawn0.step)⟩
 ·rw [if_neg c3] at H
  have c3b0 : ((l0.length : Int) == (l1.length : Int)) = false := beq_eq_false_iff_ne.mpr c3
  have c3b1 : ((l0.length : Int) != (l1.length : Int)) = true := bne_iff_ne.mpr c3
  have c3b2 : (l0.length == l1.length) = false := by first | simpa using c3 | (simp at c3 ⊢; omega)
  obtain rfl := Option.some.inj H
  go_enter Try.func65, Try.ntmps65
  go_wp2
  repeat (go_quiet (fail); try go_wp2)
  go_ret
  exact ⟨by first | rfl | (simp; done) | (simp [*]; done), by repeat (first | exact Drawn0.refl _ | apply Drawn0.step)⟩
def chanceryref1_SameElem.f (k : Nat) (a0_0 : Int) (a0_1 : Int) (l0_2 : List (S91)) (a1_0 : Int) (a1_1 : Int) (l1_2 : List (S91)) : Option (Bool) := if a0_0 = a1_0 then (if a0_1 = a1_1 then ((chanceryref1_SameAttrs.f k l0_2 l1_2).bind fun t228 => (some t228)) else (some false)) else (some false)
set_option maxHeartbeats 8000000 in
set_option maxRecDepth 100000 in
theorem chanceryref1_SameElem.calls (k : Nat) (a0_0 : Int) (a0_1 : Int) (A0_2 : Option Addr) (c0_2 : Nat) (l0_2 : List (S91)) (a1_0 : Int) (a1_1 : Int) (A1_2 : Option Addr) (c1_2 : Nat) (l1_2 : List (S91)) (r : Bool) (w : World) (hr0_2 : Kd.C k91 w A0_2 l0_2.length l0_2) (hc0_2 : l0_2.length ≤ c0_2) (hr1_2 : Kd.C k91 w A1_2 l1_2.length l1_2) (hc1_2 : l1_2.length ≤ c1_2) (h : chanceryref1_SameElem.f k a0_0 a0_1 l0_2 a1_0 a1_1 l1_2 = some r) :
  Calls Try.prog 30 #[.agg #[.int .i64 a0_0, .int .i64 a0_1, .slice A0_2 l0_2.length c0_2], .agg #[.int .i64 a1_0, .int .i64 a1_1, .slice A1_2 l1_2.length c1_2]] w fun e w' => e = .returned (.bool r) ∧ Below w.heap.size w w' := by
 have hu26 := Try.underlying26
 have HR0_2 := Aside0.mk hr0_2
 have HC0_2 := Aside0.mk hc0_2
 clear hr0_2 hc0_2
 have HR1_2 := Aside0.mk hr1_2
 have HC1_2 := Aside0.mk hc1_2
 clear hr1_2 hc1_2
 have HB := Aside0.mk (Below.refl w.heap.size w)
 have H : (if a0_0 = a1_0 then (if a0_1 = a1_1 then ((chanceryref1_SameAttrs.f k l0_2 l1_2).bind fun t228 => (some t228)) else (some false)) else (some false)) = some r := h
 clear h
 by_cases c3 : a0_0 = a1_0
 ·rw [if_pos c3] at H
  have c3b0 : (a0_0 == a1_0) = true := beq_iff_eq.mpr c3
  have c3b1 : (a0_0 != a1_0) = false := bne_eq_false_iff_eq.mpr c3
  clear c3
  by_cases c4 : a0_1 = a1_1
  ·rw [if_pos c4] at H
   have c4b0 : (a0_1 == a1_1) = true := beq_iff_eq.mpr c4
   have c4b1 : (a0_1 != a1_1) = false := bne_eq_false_iff_eq.mpr c4
   clear c4
   replace H := Option.bind_eq_some_iff.mp H
   obtain ⟨t228, A50, H⟩ := H
   replace H : (some t228) = some r := H
   have A5 := Aside0.mk A50
   clear A50
   obtain rfl := Option.some.inj H
   go_enter Try.func30, Try.ntmps30
   go_wp2_with (first | ((with_reducible refine gate_dst (N := 2) rfl ?_); refine box_event ?hg (N := 2) ?hd (cs := #[.int .i64 a0_0, .int .i64 a0_1, .slice A0_2 l0_2.length c0_2]) (t := 26) ?hr ?_; (case hd => rfl); (case hg => rfl); (case hr => first | (go_simp; done) | (go_simp; rfl)); intro gb226 hg w6 hbox hb; have n0_ := Aside0.mk (below_step (by with_reducible repeat first | exact HB.out | apply below_alloc | apply pw_below_drewN | apply below_drew1) hb); have n1_ := Aside0.mk (hbox); have n2_ := Aside0.mk ((by rw [hg]; exact (below_size (by with_reducible repeat first | exact HB.out | apply below_alloc | apply pw_below_drewN | apply below_drew1)) : w.heap.size ≤ gb226)); have n3_ := Aside0.mk ((by rw [hg]; exact (below_size (by with_reducible repeat first | exact HB.out | apply below_alloc | apply pw_below_drewN | apply below_drew1)) : w.heap.size ≤ gb226)); clear HB; have HB := n0_; have BK226 := n1_; have GW226 := n2_; have GE226 := n3_; clear n0_ n1_ n2_ n3_; clear hb hbox hg) | ((with_reducible refine gate_dst (N := 3) rfl ?_); refine box_event ?hg (N := 3) ?hd (cs := #[.int .i64 a1_0, .int .i64 a1_1, .slice A1_2 l1_2.length c1_2]) (t := 26) ?hr ?_; (case hd => rfl); (case hg => rfl); (case hr => first | (go_simp; done) | (go_simp; rfl)); intro gb227 hg w7 hbox hb; have n0_ := Aside0.mk (blk_below (g := gb226) (o := .cells #[.int .i64 a0_0, .int .i64 a0_1, .slice A0_2 l0_2.length c0_2] 26 (0, 0)) (by (with_reducible repeat (first | refine blk_drewN ?_ _ | refine blk_drew ?_ | refine blk_alloc ?_ _)); exact BK226.out) hb); have n1_ := Aside0.mk (below_step (by repeat (first | (with_reducible first | exact HB.out | apply below_alloc | apply pw_below_drewN | apply below_drew1 | refine below_set ?_ GE226.out) | exact HB.out)) hb); have n2_ := Aside0.mk (hbox); have n3_ := Aside0.mk ((by rw [hg]; exact (below_size (by repeat (first | (with_reducible first | exact HB.out | apply below_alloc | apply pw_below_drewN | apply below_drew1 | refine below_set ?_ GE226.out) | exact HB.out))) : w.heap.size ≤ gb227)); have n4_ := Aside0.mk ((by rw [hg]; exact (below_size (by repeat (first | (with_reducible first | exact HB.out | apply below_alloc | apply pw_below_drewN | apply below_drew1 | refine below_set ?_ GE226.out) | exact HB.out))) : w.heap.size ≤ gb227)); have n5_ := Aside0.mk ((by rw [hg]; exact Nat.ne_of_lt (blk_lt (g := gb226) (o := .cells #[.int .i64 a0_0, .int .i64 a0_1, .slice A0_2 l0_2.length c0_2] 26 (0, 0)) (by (with_reducible repeat (first | refine blk_drewN ?_ _ | refine blk_drew ?_ | refine blk_alloc ?_ _)); exact BK226.out)) : gb226 ≠ gb227)); have n6_ := Aside0.mk ((by rw [hg]; exact Nat.ne_of_gt (blk_lt (g := gb226) (o := .cells #[.int .i64 a0_0, .int .i64 a0_1, .slice A0_2 l0_2.length c0_2] 26 (0, 0)) (by (with_reducible repeat (first | refine blk_drewN ?_ _ | refine blk_drew ?_ | refine blk_alloc ?_ _)); exact BK226.out)) : gb227 ≠ gb226)); clear BK226; clear HB; have BK226 := n0_; have HB := n1_; have BK227 := n2_; have GW227 := n3_; have GE227 := n4_; have NB226_227 := n5_; have NB227_226 := n6_; clear n0_ n1_ n2_ n3_ n4_ n5_ n6_; clear hb hbox hg; have hnb8 := NB226_227.out; have hnc8 := NB227_226.out; have hcz9_0 : w7.cell? ⟨gb226, 0, none⟩ = some (.int .i64 a0_0) := (blk_cell BK226.out 0).trans rfl; have hcz9_1 : w7.cell? ⟨gb226, 1, none⟩ = some (.int .i64 a0_1) := (blk_cell BK226.out 1).trans rfl; have hcz9_2 : w7.cell? ⟨gb226, 2, none⟩ = some (.slice A0_2 l0_2.length c0_2) := (blk_cell BK226.out 2).trans rfl; have hfz9_0 := blk_frozen BK226.out 0; have hfz9_1 := blk_frozen BK226.out 1; have hfz9_2 := blk_frozen BK226.out 2; have hcz10_0 : w7.cell? ⟨gb227, 0, none⟩ = some (.int .i64 a1_0) := (blk_cell BK227.out 0).trans rfl; have hcz10_1 : w7.cell? ⟨gb227, 1, none⟩ = some (.int .i64 a1_1) := (blk_cell BK227.out 1).trans rfl; have hcz10_2 : w7.cell? ⟨gb227, 2, none⟩ = some (.slice A1_2 l1_2.length c1_2) := (blk_cell BK227.out 2).trans rfl; have hfz10_0 := blk_frozen BK227.out 0; have hfz10_1 := blk_frozen BK227.out 1; have hfz10_2 := blk_frozen BK227.out 2) | (go_at_call 65; (with_reducible refine (chanceryref1_SameAttrs.calls k _ _ l0_2 _ _ l1_2 t228 _ ?side1 ?side2 ?side3 ?side4 A5.out).mono ?_); (case side1 => repeat (first | exact (Kd.C_below HR0_2.out HB.out) | (with_reducible refine Kd.C_alloc ?_ _) | (with_reducible refine Kd.C_drewN ?_ _) | (with_reducible refine Kd.C_drew ?_))); (case side2 => exact HC0_2.out); (case side3 => repeat (first | exact (Kd.C_below HR1_2.out HB.out) | (with_reducible refine Kd.C_alloc ?_ _) | (with_reducible refine Kd.C_drewN ?_ _) | (with_reducible refine Kd.C_drew ?_))); (case side4 => exact HC1_2.out); rintro e w' ⟨rfl, ⟨nd, rfl⟩⟩))
   go_ret
   exact ⟨by first | rfl | (simp [errW_none, errW_some] <;> rfl) | (simp [*, errW_none, errW_some] <;> rfl), by repeat (first | (with_reducible first | exact HB.out | apply below_alloc | apply pw_below_drewN | apply below_drew1 | refine below_set ?_ GE226.out | refine below_set ?_ GE227.out) | exact HB.out)⟩
  ·rw [if_neg c4] at H
   have c4b0 : (a0_1 == a1_1) = false := beq_eq_false_iff_ne.mpr c4
   have c4b1 : (a0_1 != a1_1) = true := bne_iff_ne.mpr c4
   obtain rfl := Option.some.inj H
   go_enter Try.func30, Try.ntmps30
   go_wp2_with (first | ((with_reducible refine gate_dst (N := 2) rfl ?_); refine box_event ?hg (N := 2) ?hd (cs := #[.int .i64 a0_0, .int .i64 a0_1, .slice A0_2 l0_2.length c0_2]) (t := 26) ?hr ?_; (case hd => rfl); (case hg => rfl); (case hr => first | (go_simp; done) | (go_simp; rfl)); intro gb226 hg w11 hbox hb; have n0_ := Aside0.mk (below_step (by with_reducible repeat first | exact HB.out | apply below_alloc | apply pw_below_drewN | apply below_drew1) hb); have n1_ := Aside0.mk (hbox); have n2_ := Aside0.mk ((by rw [hg]; exact (below_size (by with_reducible repeat first | exact HB.out | apply below_alloc | apply pw_below_drewN | apply below_drew1)) : w.heap.size ≤ gb226)); have n3_ := Aside0.mk ((by rw [hg]; exact (below_size (by with_reducible repeat first | exact HB.out | apply below_alloc | apply pw_below_drewN | apply below_drew1)) : w.heap.size ≤ gb226)); clear HB; have HB := n0_; have BK226 := n1_; have GW226 := n2_; have GE226 := n3_; clear n0_ n1_ n2_ n3_; clear hb hbox hg) | ((with_reducible refine gate_dst (N := 3) rfl ?_); refine box_event ?hg (N := 3) ?hd (cs := #[.int .i64 a1_0, .int .i64 a1_1, .slice A1_2 l1_2.length c1_2]) (t := 26) ?hr ?_; (case hd => rfl); (case hg => rfl); (case hr => first | (go_simp; done) | (go_simp; rfl)); intro gb227 hg w12 hbox hb; have n0_ := Aside0.mk (blk_below (g := gb226) (o := .cells #[.int .i64 a0_0, .int .i64 a0_1, .slice A0_2 l0_2.length c0_2] 26 (0, 0)) (by (with_reducible repeat (first | refine blk_drewN ?_ _ | refine blk_drew ?_ | refine blk_alloc ?_ _)); exact BK226.out) hb); have n1_ := Aside0.mk (below_step (by repeat (first | (with_reducible first | exact HB.out | apply below_alloc | apply pw_below_drewN | apply below_drew1 | refine below_set ?_ GE226.out) | exact HB.out)) hb); have n2_ := Aside0.mk (hbox); have n3_ := Aside0.mk ((by rw [hg]; exact (below_size (by repeat (first | (with_reducible first | exact HB.out | apply below_alloc | apply pw_below_drewN | apply below_drew1 | refine below_set ?_ GE226.out) | exact HB.out))) : w.heap.size ≤ gb227)); have n4_ := Aside0.mk ((by rw [hg]; exact (below_size (by repeat (first | (with_reducible first | exact HB.out | apply below_alloc | apply pw_below_drewN | apply below_drew1 | refine below_set ?_ GE226.out) | exact HB.out))) : w.heap.size ≤ gb227)); have n5_ := Aside0.mk ((by rw [hg]; exact Nat.ne_of_lt (blk_lt (g := gb226) (o := .cells #[.int .i64 a0_0, .int .i64 a0_1, .slice A0_2 l0_2.length c0_2] 26 (0, 0)) (by (with_reducible repeat (first | refine blk_drewN ?_ _ | refine blk_drew ?_ | refine blk_alloc ?_ _)); exact BK226.out)) : gb226 ≠ gb227)); have n6_ := Aside0.mk ((by rw [hg]; exact Nat.ne_of_gt (blk_lt (g := gb226) (o := .cells #[.int .i64 a0_0, .int .i64 a0_1, .slice A0_2 l0_2.length c0_2] 26 (0, 0)) (by (with_reducible repeat (first | refine blk_drewN ?_ _ | refine blk_drew ?_ | refine blk_alloc ?_ _)); exact BK226.out)) : gb227 ≠ gb226)); clear BK226; clear HB; have BK226 := n0_; have HB := n1_; have BK227 := n2_; have GW227 := n3_; have GE227 := n4_; have NB226_227 := n5_; have NB227_226 := n6_; clear n0_ n1_ n2_ n3_ n4_ n5_ n6_; clear hb hbox hg; have hnb13 := NB226_227.out; have hnc13 := NB227_226.out; have hcz14_0 : w12.cell? ⟨gb226, 0, none⟩ = some (.int .i64 a0_0) := (blk_cell BK226.out 0).trans rfl; have hcz14_1 : w12.cell? ⟨gb226, 1, none⟩ = some (.int .i64 a0_1) := (blk_cell BK226.out 1).trans rfl; have hcz14_2 : w12.cell? ⟨gb226, 2, none⟩ = some (.slice A0_2 l0_2.length c0_2) := (blk_cell BK226.out 2).trans rfl; have hfz14_0 := blk_frozen BK226.out 0; have hfz14_1 := blk_frozen BK226.out 1; have hfz14_2 := blk_frozen BK226.out 2; have hcz15_0 : w12.cell? ⟨gb227, 0, none⟩ = some (.int .i64 a1_0) := (blk_cell BK227.out 0).trans rfl; have hcz15_1 : w12.cell? ⟨gb227, 1, none⟩ = some (.int .i64 a1_1) := (blk_cell BK227.out 1).trans rfl; have hcz15_2 : w12.cell? ⟨gb227, 2, none⟩ = some (.slice A1_2 l1_2.length c1_2) := (blk_cell BK227.out 2).trans rfl; have hfz15_0 := blk_frozen BK227.out 0; have hfz15_1 := blk_frozen BK227.out 1; have hfz15_2 := blk_frozen BK227.out 2))
   go_ret
   exact ⟨by first | rfl | (simp [errW_none, errW_some] <;> rfl) | (simp [*, errW_none, errW_some] <;> rfl), by repeat (first | (with_reducible first | exact HB.out | apply below_alloc | apply pw_below_drewN | apply below_drew1 | refine below_set ?_ GE226.out | refine below_set ?_ GE227.out) | exact HB.out)⟩
 ·rw [if_neg c3] at H
  have c3b0 : (a0_0 == a1_0) = false := beq_eq_false_iff_ne.mpr c3
  have c3b1 : (a0_0 != a1_0) = true := bne_iff_ne.mpr c3
  obtain rfl := Option.some.inj H
  go_enter Try.func30, Try.ntmps30
  go_wp2_with (first | ((with_reducible refine gate_dst (N := 2) rfl ?_); refine box_event ?hg (N := 2) ?hd (cs := #[.int .i64 a0_0, .int .i64 a0_1, .slice A0_2 l0_2.length c0_2]) (t := 26) ?hr ?_; (case hd => rfl); (case hg => rfl); (case hr => first | (go_simp; done) | (go_simp; rfl)); intro gb226 hg w16 hbox hb; have n0_ := Aside0.mk (below_step (by with_reducible repeat first | exact HB.out | apply below_alloc | apply pw_below_drewN | apply below_drew1) hb); have n1_ := Aside0.mk (hbox); have n2_ := Aside0.mk ((by rw [hg]; exact (below_size (by with_reducible repeat first | exact HB.out | apply below_alloc | apply pw_below_drewN | apply below_drew1)) : w.heap.size ≤ gb226)); have n3_ := Aside0.mk ((by rw [hg]; exact (below_size (by with_reducible repeat first | exact HB.out | apply below_alloc | apply pw_below_drewN | apply below_drew1)) : w.heap.size ≤ gb226)); clear HB; have HB := n0_; have BK226 := n1_; have GW226 := n2_; have GE226 := n3_; clear n0_ n1_ n2_ n3_; clear hb hbox hg) | ((with_reducible refine gate_dst (N := 3) rfl ?_); refine box_event ?hg (N := 3) ?hd (cs := #[.int .i64 a1_0, .int .i64 a1_1, .slice A1_2 l1_2.length c1_2]) (t := 26) ?hr ?_; (case hd => rfl); (case hg => rfl); (case hr => first | (go_simp; done) | (go_simp; rfl)); intro gb227 hg w17 hbox hb; have n0_ := Aside0.mk (blk_below (g := gb226) (o := .cells #[.int .i64 a0_0, .int .i64 a0_1, .slice A0_2 l0_2.length c0_2] 26 (0, 0)) (by (with_reducible repeat (first | refine blk_drewN ?_ _ | refine blk_drew ?_ | refine blk_alloc ?_ _)); exact BK226.out) hb); have n1_ := Aside0.mk (below_step (by repeat (first | (with_reducible first | exact HB.out | apply below_alloc | apply pw_below_drewN | apply below_drew1 | refine below_set ?_ GE226.out) | exact HB.out)) hb); have n2_ := Aside0.mk (hbox); have n3_ := Aside0.mk ((by rw [hg]; exact (below_size (by repeat (first | (with_reducible first | exact HB.out | apply below_alloc | apply pw_below_drewN | apply below_drew1 | refine below_set ?_ GE226.out) | exact HB.out))) : w.heap.size ≤ gb227)); have n4_ := Aside0.mk ((by rw [hg]; exact (below_size (by repeat (first | (with_reducible first | exact HB.out | apply below_alloc | apply pw_below_drewN | apply below_drew1 | refine below_set ?_ GE226.out) | exact HB.out))) : w.heap.size ≤ gb227)); have n5_ := Aside0.mk ((by rw [hg]; exact Nat.ne_of_lt (blk_lt (g := gb226) (o := .cells #[.int .i64 a0_0, .int .i64 a0_1, .slice A0_2 l0_2.length c0_2] 26 (0, 0)) (by (with_reducible repeat (first | refine blk_drewN ?_ _ | refine blk_drew ?_ | refine blk_alloc ?_ _)); exact BK226.out)) : gb226 ≠ gb227)); have n6_ := Aside0.mk ((by rw [hg]; exact Nat.ne_of_gt (blk_lt (g := gb226) (o := .cells #[.int .i64 a0_0, .int .i64 a0_1, .slice A0_2 l0_2.length c0_2] 26 (0, 0)) (by (with_reducible repeat (first | refine blk_drewN ?_ _ | refine blk_drew ?_ | refine blk_alloc ?_ _)); exact BK226.out)) : gb227 ≠ gb226)); clear BK226; clear HB; have BK226 := n0_; have HB := n1_; have BK227 := n2_; have GW227 := n3_; have GE227 := n4_; have NB226_227 := n5_; have NB227_226 := n6_; clear n0_ n1_ n2_ n3_ n4_ n5_ n6_; clear hb hbox hg; have hnb18 := NB226_227.out; have hnc18 := NB227_226.out; have hcz19_0 : w17.cell? ⟨gb226, 0, none⟩ = some (.int .i64 a0_0) := (blk_cell BK226.out 0).trans rfl; have hcz19_1 : w17.cell? ⟨gb226, 1, none⟩ = some (.int .i64 a0_1) := (blk_cell BK226.out 1).trans rfl; have hcz19_2 : w17.cell? ⟨gb226, 2, none⟩ = some (.slice A0_2 l0_2.length c0_2) := (blk_cell BK226.out 2).trans rfl; have hfz19_0 := blk_frozen BK226.out 0; have hfz19_1 := blk_frozen BK226.out 1; have hfz19_2 := blk_frozen BK226.out 2; have hcz20_0 : w17.cell? ⟨gb227, 0, none⟩ = some (.int .i64 a1_0) := (blk_cell BK227.out 0).trans rfl; have hcz20_1 : w17.cell? ⟨gb227, 1, none⟩ = some (.int .i64 a1_1) := (blk_cell BK227.out 1).trans rfl; have hcz20_2 : w17.cell? ⟨gb227, 2, none⟩ = some (.slice A1_2 l1_2.length c1_2) := (blk_cell BK227.out 2).trans rfl; have hfz20_0 := blk_frozen BK227.out 0; have hfz20_1 := blk_frozen BK227.out 1; have hfz20_2 := blk_frozen BK227.out 2))
  go_ret
  exact ⟨by first | rfl | (simp [errW_none, errW_some] <;> rfl) | (simp [*, errW_none, errW_some] <;> rfl), by repeat (first | (with_reducible first | exact HB.out | apply below_alloc | apply pw_below_drewN | apply below_drew1 | refine below_set ?_ GE226.out | refine below_set ?_ GE227.out) | exact HB.out)⟩
end Go.Proofs.Ytlcodfjlbhjkbaa.PDelta
end
section
namespace Go.Proofs.Ytlcodfjlbhjkbaa.PDelta
open Go.RowKit Go.Proofs.YtlcodfjlbhjkbaaW.PrintWords Go.Proofs.YtlcodfjlbhjkbaaW.PrintLast Go.Proofs.YtlcodfjlbhjkbaaW.PrintMore
attribute [local go_sem] max2_int min2_int max_two min_two max_three min_three max_four min_four
attribute [local go_sem high] Go.Proofs.Ytlcodfjlbhjkbaa.Ord.leq_str Go.Proofs.Ytlcodfjlbhjkbaa.Ord.gtr_str Go.Proofs.Ytlcodfjlbhjkbaa.Ord.geq_str
def chanceryref1_SameFlow.l0 : Nat → List (S26) → List (S26) → Int → Int → Option (Bool)
 | 0, _, _, _, _ => none
 | k + 1, x0, x1, x12, x13 => if x13 < x12 then (if 0 ≤ x13 then (if x13 < (x0.length : Int) then (if x13 < (x1.length : Int) then ((chanceryref1_SameElem.f k ((rd_T26 x0 x13).f0) ((rd_T26 x0 x13).f1) ((rd_T26 x0 x13).f2) ((rd_T26 x1 x13).f0) ((rd_T26 x1 x13).f1) ((rd_T26 x1 x13).f2)).bind fun t231 => (if t231 = true then (chanceryref1_SameFlow.l0 k x0 x1 x12 (wrap64 (x13 + 1))) else (some false))) else (none)) else (none)) else (none)) else (some true)
def chanceryref1_SameFlow.f (k : Nat) (l0 : List (S26)) (l1 : List (S26)) : Option (Bool) := if (l0.length : Int) = (l1.length : Int) then (chanceryref1_SameFlow.l0 k l0 l1 (l0.length : Int) 0) else (some false)
def chanceryref1_SameFlow.T6 : Bool × List (List Nat × List Nat) := (true, [([], []), ([], []), ([0, 1], [0, 1]), ([2], [2]), ([], []), ([], []), ([4, 5], [4, 5]), ([6], [6]), ([3, 7], [3, 7]), ([8], [8])])
def chanceryref1_SameFlow.B6 : List Nat := [0, 0, 3, 7, 0, 0, 48, 112, 255, 511]
theorem chanceryref1_SameFlow.tab6 : rtab .any (opsOf Try.f28 6) = chanceryref1_SameFlow.T6 := by kernel_rfl
theorem chanceryref1_SameFlow.bits6 : waitsOk chanceryref1_SameFlow.T6.2 chanceryref1_SameFlow.B6 = true := by kernel_rfl
set_option maxHeartbeats 8000000 in
set_option maxRecDepth 100000 in
theorem chanceryref1_SameFlow.calls (k : Nat) (A0 : Option Addr) (c0 : Nat) (l0 : List (S26)) (A1 : Option Addr) (c1 : Nat) (l1 : List (S26)) (r : Bool) (w : World) (hr0 : Kd.C k26 w A0 l0.length l0) (hc0 : l0.length ≤ c0) (hr1 : Kd.C k26 w A1 l1.length l1) (hc1 : l1.length ≤ c1) (h : chanceryref1_SameFlow.f k l0 l1 = some r) :
  Calls Try.prog 28 #[.slice A0 l0.length c0, .slice A1 l1.length c1] w fun e w' => e = .returned (.bool r) ∧ Below w.heap.size w w' := by
 have hu26 := Try.underlying26
 have HR0 := Aside0.mk hr0
 have HC0 := Aside0.mk hc0
 clear hr0 hc0
 have HR1 := Aside0.mk hr1
 have HC1 := Aside0.mk hc1
 clear hr1 hc1
 have HB := Aside0.mk (Below.refl w.heap.size w)
 have H : (if (l0.length : Int) = (l1.length : Int) then (chanceryref1_SameFlow.l0 k l0 l1 (l0.length : Int) 0) else (some false)) = some r := h
 clear h
 by_cases c3 : (l0.length : Int) = (l1.length : Int)
 ·rw [if_pos c3] at H
  have c3b0 : ((l0.length : Int) == (l1.length : Int)) = true := beq_iff_eq.mpr c3
  have c3b1 : ((l0.length : Int) != (l1.length : Int)) = false := bne_eq_false_iff_eq.mpr c3
  have c3b2 : (l0.length == l1.length) = true := by first | simpa using c3 | (simp at c3 ⊢; omega)
  clear c3
  have H' := Aside0.mk H
  clear H
  go_enter Try.func28, Try.ntmps28
  go_wp2
  go_loopg [13] k (fun kq v13 w' => ∃ (x13_1 : Int), v13 = .int .i64 x13_1 ∧ Aside0 (chanceryref1_SameFlow.l0 kq l0 l1 (l0.length : Int) x13_1 = some r) ∧ Aside0 (kq ≤ k) ∧ Aside0 (Below w.heap.size w w'))
  case atStart => exact ⟨(0), (by first | rfl | (simp; done) | (simp [*]; done)), H', ⟨Nat.le_refl _⟩, ⟨by repeat (first | (with_reducible first | exact HB.out | apply below_alloc | apply pw_below_drewN | apply below_drew1) | exact HB.out)⟩⟩
  case round =>
   clear H'
   try clear c1
   try clear c2
   try clear p2
   try clear c3
   try clear c3b0
   try clear c3b1
   try clear c3b2
   obtain ⟨x13_1, rfl, HA, HK1, HB⟩ := hrel
   cases gk with
   | zero => exact absurd HA.out (by simp [chanceryref1_SameFlow.l0])
   | succ k1 =>
    have H := HA.out
    clear HA
    simp only [chanceryref1_SameFlow.l0] at H
    by_cases c4 : x13_1 < (l0.length : Int)
    ·rw [if_pos c4] at H
     have c4b0 : decide (x13_1 < (l0.length : Int)) = true := decide_eq_true c4
     clear c4
     by_cases c5 : 0 ≤ x13_1
     ·rw [if_pos c5] at H
      have c5b0 : decide (0 ≤ x13_1) = true := decide_eq_true c5
      clear c5
      by_cases c6 : x13_1 < (l0.length : Int)
      ·rw [if_pos c6] at H
       have c6b0 : decide (x13_1 < (l0.length : Int)) = true := decide_eq_true c6
       clear c6
       by_cases c7 : x13_1 < (l1.length : Int)
       ·rw [if_pos c7] at H
        have c7b0 : decide (x13_1 < (l1.length : Int)) = true := decide_eq_true c7
        clear c7
        replace H := Option.bind_eq_some_iff.mp H
        obtain ⟨t231, A80, H⟩ := H
        replace H : (if t231 = true then (chanceryref1_SameFlow.l0 k1 l0 l1 (l0.length : Int) (wrap64 (x13_1 + 1))) else (some false)) = some r := H
        have A8 := Aside0.mk A80
        clear A80
        by_cases c9 : t231 = true
        ·subst c9
         have H1 : (chanceryref1_SameFlow.l0 k1 l0 l1 (l0.length : Int) (wrap64 (x13_1 + 1))) = some r := by rw [if_pos rfl] at H; exact H
         clear H
         have H := H1
         clear H1
         have H' := Aside0.mk H
         clear H
         try go_wp2
         have n0_ := Aside0.mk (below_drew1 HB.out)
         clear HB
         have HB := n0_
         clear n0_
         have p229 : 0 ≤ (x13_1 : Int) := of_decide_eq_true (by assumption)
         have q229 : x13_1 < (l0.length : Int) := of_decide_eq_true (by assumption)
         obtain ⟨ad229, A229_2, c229_2, e229, hx229_0, hx229_1, hx229_2, hl229_2, hi229_2⟩ := at_T26 HR0.out x13_1 p229 q229
         have hw229_2 := hx229_2
         have hw229_1 := hx229_1
         have hw229_0 := hx229_0
         cases e229
         replace hx229_0 := (HB.out.cell (World.block_lt_of_cell? w _ hx229_0)).trans hx229_0
         replace hx229_1 := (HB.out.cell (World.block_lt_of_cell? w _ hx229_1)).trans hx229_1
         replace hx229_2 := (HB.out.cell (World.block_lt_of_cell? w _ hx229_2)).trans hx229_2
         have HR229_2 := Aside0.mk hi229_2
         have HC229_2 := Aside0.mk hl229_2
         clear hi229_2 hl229_2
         replace p229 := eq_true p229
         replace q229 := eq_true q229
         have p230 : 0 ≤ (x13_1 : Int) := of_decide_eq_true (by assumption)
         have q230 : x13_1 < (l1.length : Int) := of_decide_eq_true (by assumption)
         obtain ⟨ad230, A230_2, c230_2, e230, hx230_0, hx230_1, hx230_2, hl230_2, hi230_2⟩ := at_T26 HR1.out x13_1 p230 q230
         have hw230_2 := hx230_2
         have hw230_1 := hx230_1
         have hw230_0 := hx230_0
         cases e230
         replace hx230_0 := (HB.out.cell (World.block_lt_of_cell? w _ hx230_0)).trans hx230_0
         replace hx230_1 := (HB.out.cell (World.block_lt_of_cell? w _ hx230_1)).trans hx230_1
         replace hx230_2 := (HB.out.cell (World.block_lt_of_cell? w _ hx230_2)).trans hx230_2
         have HR230_2 := Aside0.mk hi230_2
         have HC230_2 := Aside0.mk hl230_2
         clear hi230_2 hl230_2
         replace p230 := eq_true p230
         replace q230 := eq_true q230
         refine start_ (n := 10) (S := fun w' => w'.cell? (ad229.add ((x13_1).toNat * 3)) = some (.int .i64 ((rd_T26 l0 x13_1).f0)) ∧ w'.cell? ⟨(ad229.add ((x13_1).toNat * 3)).block, (ad229.add ((x13_1).toNat * 3)).off + 1, none⟩ = some (.int .i64 ((rd_T26 l0 x13_1).f1)) ∧ w'.cell? ⟨(ad229.add ((x13_1).toNat * 3)).block, (ad229.add ((x13_1).toNat * 3)).off + 2, none⟩ = some (.slice A229_2 ((rd_T26 l0 x13_1).f2).length c229_2) ∧ w'.cell? (ad230.add ((x13_1).toNat * 3)) = some (.int .i64 ((rd_T26 l1 x13_1).f0)) ∧ w'.cell? ⟨(ad230.add ((x13_1).toNat * 3)).block, (ad230.add ((x13_1).toNat * 3)).off + 1, none⟩ = some (.int .i64 ((rd_T26 l1 x13_1).f1)) ∧ w'.cell? ⟨(ad230.add ((x13_1).toNat * 3)).block, (ad230.add ((x13_1).toNat * 3)).off + 2, none⟩ = some (.slice A230_2 ((rd_T26 l1 x13_1).f2).length c230_2)) (ds := []) #[false, false, false, false, false, false, false, false, false, false] (by kernel_rfl) rfl rfl ⟨((HB.out.cell (World.block_lt_of_cell? w _ hw229_0)).trans hw229_0), ((HB.out.cell (World.block_lt_of_cell? w _ hw229_1)).trans hw229_1), ((HB.out.cell (World.block_lt_of_cell? w _ hw229_2)).trans hw229_2), ((HB.out.cell (World.block_lt_of_cell? w _ hw230_0)).trans hw230_0), ((HB.out.cell (World.block_lt_of_cell? w _ hw230_1)).trans hw230_1), ((HB.out.cell (World.block_lt_of_cell? w _ hw230_2)).trans hw230_2)⟩ (fun hHeld => ?_); refine with_tabW chanceryref1_SameFlow.tab6 chanceryref1_SameFlow.bits6 (fun HT_ HW_ => ?_)
         generalize wr.drew = w10 at HB HR229_2 HR230_2 hx229_0 hx229_1 hx229_2 hx230_0 hx230_1 hx230_2 hHeld ⊢
         refine pure_ (i := 0) (N := some 16) (v := ?_) (a' := ?_) (bm 1 10) rfl rfl (any_of HT_.out (by kernel_rfl)) (fun _ _ _ h => h) (Or.inl ⟨by rfl, ?_⟩) ?_ ?_
         rotate_left
         ·intro w'
          go_simp
          with_reducible rfl
         rotate_left
         ·simp only [Act.put, sA, sB, sC, i64_w, i32_w]
          rfl
         refine pure_ (i := 1) (N := some 17) (v := ?_) (a' := ?_) (bm 3 10) rfl rfl (any_of HT_.out (by kernel_rfl)) (fun _ _ _ h => h) (Or.inl ⟨by rfl, ?_⟩) ?_ ?_
         rotate_left
         ·intro w'
          go_simp
          with_reducible rfl
         rotate_left
         ·simp only [Act.put, sA, sB, sC, i64_w, i32_w]
          rfl
         refine pure_ (i := 2) (N := some 18) (v := ?_) (a' := ?_) (bm 7 10) rfl rfl (any_of HT_.out (by kernel_rfl)) (fun _ _ _ h => h) (Or.inl ⟨by rfl, ?_⟩) ?_ ?_
         rotate_left
         ·intro w'
          go_simp
          with_reducible rfl
         rotate_left
         ·simp only [Act.put, sA, sB, sC, i64_w, i32_w]
          rfl
         refine pure_ (i := 4) (N := some 20) (v := ?_) (a' := ?_) (bm 23 10) rfl rfl (any_of HT_.out (by kernel_rfl)) (fun _ _ _ h => h) (Or.inl ⟨by rfl, ?_⟩) ?_ ?_
         rotate_left
         ·intro w'
          go_simp
          with_reducible rfl
         rotate_left
         ·simp only [Act.put, sA, sB, sC, i64_w, i32_w]
          rfl
         refine pure_ (i := 5) (N := some 21) (v := ?_) (a' := ?_) (bm 55 10) rfl rfl (any_of HT_.out (by kernel_rfl)) (fun _ _ _ h => h) (Or.inl ⟨by rfl, ?_⟩) ?_ ?_
         rotate_left
         ·intro w'
          go_simp
          with_reducible rfl
         rotate_left
         ·simp only [Act.put, sA, sB, sC, i64_w, i32_w]
          rfl
         refine pure_ (i := 6) (N := some 22) (v := ?_) (a' := ?_) (bm 119 10) rfl rfl (any_of HT_.out (by kernel_rfl)) (fun _ _ _ h => h) (Or.inl ⟨by rfl, ?_⟩) ?_ ?_
         rotate_left
         ·intro w'
          go_simp
          with_reducible rfl
         rotate_left
         ·simp only [Act.put, sA, sB, sC, i64_w, i32_w]
          rfl
         refine take_ (i := 3) (N := some 19) (v := ?_) (a' := ?_) (bm 127 10) rfl rfl (take_ofW HT_.out HW_.out (by kernel_rfl)) (fun _ _ _ h => h) (Or.inl ⟨by rfl, ?_⟩) hHeld ?_ ?_
         rotate_left
         ·rintro w' ⟨s0, s1, s2, s3, s4, s5⟩
          go_simp
          with_reducible rfl
         rotate_left
         ·simp only [Act.put, sA, sB, sC, i64_w, i32_w]
          rfl
         refine take_ (i := 7) (N := some 23) (v := ?_) (a' := ?_) (bm 255 10) rfl rfl (take_ofW HT_.out HW_.out (by kernel_rfl)) (fun _ _ _ h => h) (Or.inl ⟨by rfl, ?_⟩) hHeld ?_ ?_
         rotate_left
         ·rintro w' ⟨s0, s1, s2, s3, s4, s5⟩
          go_simp
          with_reducible rfl
         rotate_left
         ·simp only [Act.put, sA, sB, sC, i64_w, i32_w]
          rfl
         refine one_ (i := 8) (N := some 24) (bm 511 10) rfl rfl (one_of HT_.out (by kernel_rfl)) (by decide) (fun K hK => ?_)
         refine goes_ Try.func30 (by kernel_rfl) rfl #[.agg #[.int .i64 ((rd_T26 l0 x13_1).f0), .int .i64 ((rd_T26 l0 x13_1).f1), .slice A229_2 ((rd_T26 l0 x13_1).f2).length c229_2], .agg #[.int .i64 ((rd_T26 l1 x13_1).f0), .int .i64 ((rd_T26 l1 x13_1).f1), .slice A230_2 ((rd_T26 l1 x13_1).f2).length c230_2]] (by rfl) rfl rfl (by (try simp only [List.map_toArray, List.map_cons, List.map_nil]); first | done | rfl | (simp only [List.length_drop, List.length_take]; rfl)) ?_
         with_reducible refine (chanceryref1_SameElem.calls k1 ((rd_T26 l0 x13_1).f0) ((rd_T26 l0 x13_1).f1) _ _ ((rd_T26 l0 x13_1).f2) ((rd_T26 l1 x13_1).f0) ((rd_T26 l1 x13_1).f1) _ _ ((rd_T26 l1 x13_1).f2) true _ ?side1 ?side2 ?side3 ?side4 A8.out).mono ?_
         (case side1 => repeat (first | exact (Kd.C_below HR229_2.out HB.out) | (with_reducible refine Kd.C_alloc ?_ _) | (with_reducible refine Kd.C_drewN ?_ _) | (with_reducible refine Kd.C_drew ?_)))
         (case side2 => exact HC229_2.out)
         (case side3 => repeat (first | exact (Kd.C_below HR230_2.out HB.out) | (with_reducible refine Kd.C_alloc ?_ _) | (with_reducible refine Kd.C_drewN ?_ _) | (with_reducible refine Kd.C_drew ?_)))
         (case side4 => exact HC230_2.out)
         rintro e w11 ⟨rfl, hb⟩
         refine ⟨_, rfl, ?_⟩
         have n0_ := Aside0.mk (below_step (by with_reducible repeat first | exact HB.out | apply below_alloc | apply pw_below_drewN | apply below_drew1) hb)
         clear HB
         have HB := n0_
         clear n0_
         (try clear hb)
         (try clear hb2)
         (try clear hk)
         (try clear hi)
         refine hK.out _ _ ⟨((HB.out.cell (World.block_lt_of_cell? w _ hw229_0)).trans hw229_0), ((HB.out.cell (World.block_lt_of_cell? w _ hw229_1)).trans hw229_1), ((HB.out.cell (World.block_lt_of_cell? w _ hw229_2)).trans hw229_2), ((HB.out.cell (World.block_lt_of_cell? w _ hw230_0)).trans hw230_0), ((HB.out.cell (World.block_lt_of_cell? w _ hw230_1)).trans hw230_1), ((HB.out.cell (World.block_lt_of_cell? w _ hw230_2)).trans hw230_2)⟩ (fun hHeld => ?_)
         clear hK K
         refine norm_ (a' := ?_) ?_ ?_
         rotate_left
         ·show Act.put _ (some 24) _ = _
          simp only [Act.put, sA, sB, sC, i64_w, i32_w]
          rfl
         refine pure_ (i := 9) (N := some 25) (v := ?_) (a' := ?_) (bm 1023 10) rfl rfl (any_of HT_.out (by kernel_rfl)) (fun _ _ _ h => h) (Or.inl ⟨by rfl, ?_⟩) ?_ ?_
         rotate_left
         ·intro w'
          go_simp
          with_reducible rfl
         rotate_left
         ·simp only [Act.put, sA, sB, sC, i64_w, i32_w]
          rfl
         refine done_ (done_of HT_.out (by kernel_rfl)) ?_
         try go_wp2
         go_roundg k1
         case measure => have := HK1.out; omega
         case rel => exact ⟨(wrap64 (x13_1 + 1)), (by first | rfl | (simp; done) | (simp [*]; done)), H', ⟨by have := HK1.out; omega⟩, ⟨by repeat (first | (with_reducible first | exact HB.out | apply below_alloc | apply pw_below_drewN | apply below_drew1) | exact HB.out)⟩⟩
        ·replace c9 := Bool.eq_false_iff.mpr c9
         subst c9
         have H1 : (some false) = some r := by rw [if_neg (show ¬ (false = true) by decide)] at H; exact H
         clear H
         have H := H1
         clear H1
         obtain rfl := Option.some.inj H
         try go_wp2
         have n0_ := Aside0.mk (below_drew1 HB.out)
         clear HB
         have HB := n0_
         clear n0_
         have p229 : 0 ≤ (x13_1 : Int) := of_decide_eq_true (by assumption)
         have q229 : x13_1 < (l0.length : Int) := of_decide_eq_true (by assumption)
         obtain ⟨ad229, A229_2, c229_2, e229, hx229_0, hx229_1, hx229_2, hl229_2, hi229_2⟩ := at_T26 HR0.out x13_1 p229 q229
         have hw229_2 := hx229_2
         have hw229_1 := hx229_1
         have hw229_0 := hx229_0
         cases e229
         replace hx229_0 := (HB.out.cell (World.block_lt_of_cell? w _ hx229_0)).trans hx229_0
         replace hx229_1 := (HB.out.cell (World.block_lt_of_cell? w _ hx229_1)).trans hx229_1
         replace hx229_2 := (HB.out.cell (World.block_lt_of_cell? w _ hx229_2)).trans hx229_2
         have HR229_2 := Aside0.mk hi229_2
         have HC229_2 := Aside0.mk hl229_2
         clear hi229_2 hl229_2
         replace p229 := eq_true p229
         replace q229 := eq_true q229
         have p230 : 0 ≤ (x13_1 : Int) := of_decide_eq_true (by assumption)
         have q230 : x13_1 < (l1.length : Int) := of_decide_eq_true (by assumption)
         obtain ⟨ad230, A230_2, c230_2, e230, hx230_0, hx230_1, hx230_2, hl230_2, hi230_2⟩ := at_T26 HR1.out x13_1 p230 q230
         have hw230_2 := hx230_2
         have hw230_1 := hx230_1
         have hw230_0 := hx230_0
         cases e230
         replace hx230_0 := (HB.out.cell (World.block_lt_of_cell? w _ hx230_0)).trans hx230_0
         replace hx230_1 := (HB.out.cell (World.block_lt_of_cell? w _ hx230_1)).trans hx230_1
         replace hx230_2 := (HB.out.cell (World.block_lt_of_cell? w _ hx230_2)).trans hx230_2
         have HR230_2 := Aside0.mk hi230_2
         have HC230_2 := Aside0.mk hl230_2
         clear hi230_2 hl230_2
         replace p230 := eq_true p230
         replace q230 := eq_true q230
         refine start_ (n := 10) (S := fun w' => w'.cell? (ad229.add ((x13_1).toNat * 3)) = some (.int .i64 ((rd_T26 l0 x13_1).f0)) ∧ w'.cell? ⟨(ad229.add ((x13_1).toNat * 3)).block, (ad229.add ((x13_1).toNat * 3)).off + 1, none⟩ = some (.int .i64 ((rd_T26 l0 x13_1).f1)) ∧ w'.cell? ⟨(ad229.add ((x13_1).toNat * 3)).block, (ad229.add ((x13_1).toNat * 3)).off + 2, none⟩ = some (.slice A229_2 ((rd_T26 l0 x13_1).f2).length c229_2) ∧ w'.cell? (ad230.add ((x13_1).toNat * 3)) = some (.int .i64 ((rd_T26 l1 x13_1).f0)) ∧ w'.cell? ⟨(ad230.add ((x13_1).toNat * 3)).block, (ad230.add ((x13_1).toNat * 3)).off + 1, none⟩ = some (.int .i64 ((rd_T26 l1 x13_1).f1)) ∧ w'.cell? ⟨(ad230.add ((x13_1).toNat * 3)).block, (ad230.add ((x13_1).toNat * 3)).off + 2, none⟩ = some (.slice A230_2 ((rd_T26 l1 x13_1).f2).length c230_2)) (ds := []) #[false, false, false, false, false, false, false, false, false, false] (by kernel_rfl) rfl rfl ⟨((HB.out.cell (World.block_lt_of_cell? w _ hw229_0)).trans hw229_0), ((HB.out.cell (World.block_lt_of_cell? w _ hw229_1)).trans hw229_1), ((HB.out.cell (World.block_lt_of_cell? w _ hw229_2)).trans hw229_2), ((HB.out.cell (World.block_lt_of_cell? w _ hw230_0)).trans hw230_0), ((HB.out.cell (World.block_lt_of_cell? w _ hw230_1)).trans hw230_1), ((HB.out.cell (World.block_lt_of_cell? w _ hw230_2)).trans hw230_2)⟩ (fun hHeld => ?_); refine with_tabW chanceryref1_SameFlow.tab6 chanceryref1_SameFlow.bits6 (fun HT_ HW_ => ?_)
         generalize wr.drew = w12 at HB HR229_2 HR230_2 hx229_0 hx229_1 hx229_2 hx230_0 hx230_1 hx230_2 hHeld ⊢
         refine pure_ (i := 0) (N := some 16) (v := ?_) (a' := ?_) (bm 1 10) rfl rfl (any_of HT_.out (by kernel_rfl)) (fun _ _ _ h => h) (Or.inl ⟨by rfl, ?_⟩) ?_ ?_
         rotate_left
         ·intro w'
          go_simp
          with_reducible rfl
         rotate_left
         ·simp only [Act.put, sA, sB, sC, i64_w, i32_w]
          rfl
         refine pure_ (i := 1) (N := some 17) (v := ?_) (a' := ?_) (bm 3 10) rfl rfl (any_of HT_.out (by kernel_rfl)) (fun _ _ _ h => h) (Or.inl ⟨by rfl, ?_⟩) ?_ ?_
         rotate_left
         ·intro w'
          go_simp
          with_reducible rfl
         rotate_left
         ·simp only [Act.put, sA, sB, sC, i64_w, i32_w]
          rfl
         refine pure_ (i := 2) (N := some 18) (v := ?_) (a' := ?_) (bm 7 10) rfl rfl (any_of HT_.out (by kernel_rfl)) (fun _ _ _ h => h) (Or.inl ⟨by rfl, ?_⟩) ?_ ?_
         rotate_left
         ·intro w'
          go_simp
          with_reducible rfl
         rotate_left
         ·simp only [Act.put, sA, sB, sC, i64_w, i32_w]
          rfl
         refine pure_ (i := 4) (N := some 20) (v := ?_) (a' := ?_) (bm 23 10) rfl rfl (any_of HT_.out (by kernel_rfl)) (fun _ _ _ h => h) (Or.inl ⟨by rfl, ?_⟩) ?_ ?_
         rotate_left
         ·intro w'
          go_simp
          with_reducible rfl
         rotate_left
         ·simp only [Act.put, sA, sB, sC, i64_w, i32_w]
          rfl
         refine pure_ (i := 5) (N := some 21) (v := ?_) (a' := ?_) (bm 55 10) rfl rfl (any_of HT_.out (by kernel_rfl)) (fun _ _ _ h => h) (Or.inl ⟨by rfl, ?_⟩) ?_ ?_
         rotate_left
         ·intro w'
          go_simp
          with_reducible rfl
         rotate_left
         ·simp only [Act.put, sA, sB, sC, i64_w, i32_w]
          rfl
         refine pure_ (i := 6) (N := some 22) (v := ?_) (a' := ?_) (bm 119 10) rfl rfl (any_of HT_.out (by kernel_rfl)) (fun _ _ _ h => h) (Or.inl ⟨by rfl, ?_⟩) ?_ ?_
         rotate_left
         ·intro w'
          go_simp
          with_reducible rfl
         rotate_left
         ·simp only [Act.put, sA, sB, sC, i64_w, i32_w]
          rfl
         refine take_ (i := 3) (N := some 19) (v := ?_) (a' := ?_) (bm 127 10) rfl rfl (take_ofW HT_.out HW_.out (by kernel_rfl)) (fun _ _ _ h => h) (Or.inl ⟨by rfl, ?_⟩) hHeld ?_ ?_
         rotate_left
         ·rintro w' ⟨s0, s1, s2, s3, s4, s5⟩
          go_simp
          with_reducible rfl
         rotate_left
         ·simp only [Act.put, sA, sB, sC, i64_w, i32_w]
          rfl
         refine take_ (i := 7) (N := some 23) (v := ?_) (a' := ?_) (bm 255 10) rfl rfl (take_ofW HT_.out HW_.out (by kernel_rfl)) (fun _ _ _ h => h) (Or.inl ⟨by rfl, ?_⟩) hHeld ?_ ?_
         rotate_left
         ·rintro w' ⟨s0, s1, s2, s3, s4, s5⟩
          go_simp
          with_reducible rfl
         rotate_left
         ·simp only [Act.put, sA, sB, sC, i64_w, i32_w]
          rfl
         refine one_ (i := 8) (N := some 24) (bm 511 10) rfl rfl (one_of HT_.out (by kernel_rfl)) (by decide) (fun K hK => ?_)
         refine goes_ Try.func30 (by kernel_rfl) rfl #[.agg #[.int .i64 ((rd_T26 l0 x13_1).f0), .int .i64 ((rd_T26 l0 x13_1).f1), .slice A229_2 ((rd_T26 l0 x13_1).f2).length c229_2], .agg #[.int .i64 ((rd_T26 l1 x13_1).f0), .int .i64 ((rd_T26 l1 x13_1).f1), .slice A230_2 ((rd_T26 l1 x13_1).f2).length c230_2]] (by rfl) rfl rfl (by (try simp only [List.map_toArray, List.map_cons, List.map_nil]); first | done | rfl | (simp only [List.length_drop, List.length_take]; rfl)) ?_
         with_reducible refine (chanceryref1_SameElem.calls k1 ((rd_T26 l0 x13_1).f0) ((rd_T26 l0 x13_1).f1) _ _ ((rd_T26 l0 x13_1).f2) ((rd_T26 l1 x13_1).f0) ((rd_T26 l1 x13_1).f1) _ _ ((rd_T26 l1 x13_1).f2) false _ ?side1 ?side2 ?side3 ?side4 A8.out).mono ?_
         (case side1 => repeat (first | exact (Kd.C_below HR229_2.out HB.out) | (with_reducible refine Kd.C_alloc ?_ _) | (with_reducible refine Kd.C_drewN ?_ _) | (with_reducible refine Kd.C_drew ?_)))
         (case side2 => exact HC229_2.out)
         (case side3 => repeat (first | exact (Kd.C_below HR230_2.out HB.out) | (with_reducible refine Kd.C_alloc ?_ _) | (with_reducible refine Kd.C_drewN ?_ _) | (with_reducible refine Kd.C_drew ?_)))
         (case side4 => exact HC230_2.out)
         rintro e w13 ⟨rfl, hb⟩
         refine ⟨_, rfl, ?_⟩
         have n0_ := Aside0.mk (below_step (by with_reducible repeat first | exact HB.out | apply below_alloc | apply pw_below_drewN | apply below_drew1) hb)
         clear HB
         have HB := n0_
         clear n0_
         (try clear hb)
         (try clear hb2)
         (try clear hk)
         (try clear hi)
         refine hK.out _ _ ⟨((HB.out.cell (World.block_lt_of_cell? w _ hw229_0)).trans hw229_0), ((HB.out.cell (World.block_lt_of_cell? w _ hw229_1)).trans hw229_1), ((HB.out.cell (World.block_lt_of_cell? w _ hw229_2)).trans hw229_2), ((HB.out.cell (World.block_lt_of_cell? w _ hw230_0)).trans hw230_0), ((HB.out.cell (World.block_lt_of_cell? w _ hw230_1)).trans hw230_1), ((HB.out.cell (World.block_lt_of_cell? w _ hw230_2)).trans hw230_2)⟩ (fun hHeld => ?_)
         clear hK K
         refine norm_ (a' := ?_) ?_ ?_
         rotate_left
         ·show Act.put _ (some 24) _ = _
          simp only [Act.put, sA, sB, sC, i64_w, i32_w]
          rfl
         refine pure_ (i := 9) (N := some 25) (v := ?_) (a' := ?_) (bm 1023 10) rfl rfl (any_of HT_.out (by kernel_rfl)) (fun _ _ _ h => h) (Or.inl ⟨by rfl, ?_⟩) ?_ ?_
         rotate_left
         ·intro w'
          go_simp
          with_reducible rfl
         rotate_left
         ·simp only [Act.put, sA, sB, sC, i64_w, i32_w]
          rfl
         refine done_ (done_of HT_.out (by kernel_rfl)) ?_
         try go_wp2
         go_ret
         exact ⟨by first | rfl | (simp [errW_none, errW_some] <;> rfl) | (simp [*, errW_none, errW_some] <;> rfl), by repeat (first | (with_reducible first | exact HB.out | apply below_alloc | apply pw_below_drewN | apply below_drew1) | exact HB.out)⟩
       ·rw [if_neg c7] at H
        exact absurd H (by simp)
      ·rw [if_neg c6] at H
       exact absurd H (by simp)
     ·rw [if_neg c5] at H
      exact absurd H (by simp)
    ·rw [if_neg c4] at H
     have c4b0 : decide (x13_1 < (l0.length : Int)) = false := decide_eq_false c4
     clear c4
     obtain rfl := Option.some.inj H
     go_wp2
     go_ret
     exact ⟨by first | rfl | (simp [errW_none, errW_some] <;> rfl) | (simp [*, errW_none, errW_some] <;> rfl), by repeat (first | (with_reducible first | exact HB.out | apply below_alloc | apply pw_below_drewN | apply below_drew1) | exact HB.out)⟩
 ·rw [if_neg c3] at H
  have c3b0 : ((l0.length : Int) == (l1.length : Int)) = false := beq_eq_false_iff_ne.mpr c3
  have c3b1 : ((l0.length : Int) != (l1.length : Int)) = true := bne_iff_ne.mpr c3
  have c3b2 : (l0.length == l1.length) = false := by first | simpa using c3 | (simp at c3 ⊢; omega)
  obtain rfl := Option.some.inj H
  go_enter Try.func28, Try.ntmps28
  go_wp2
  go_ret
  exact ⟨by first | rfl | (simp [errW_none, errW_some] <;> rfl) | (simp [*, errW_none, errW_some] <;> rfl), by repeat (first | (with_reducible first | exact HB.out | apply below_alloc | apply pw_below_drewN | apply below_drew1) | exact HB.out)⟩
def chancerykeep1_letters.l0 : Nat → ByteArray → List (S26) → Int → Int → Option ((List (S26)))
 | 0, _, _, _, _ => none
 | k + 1, x0, x3, x6, x7 => if x7 < x6 then (if 0 ≤ x7 then (if x7 < (x0.size : Int) then (if x3.length < 3518437208883 then (chancerykeep1_letters.l0 k x0 (x3 ++ [(⟨wrap64 (bt x0 x7), 0, ([] : List (S91))⟩ : S26)]) x6 (wrap64 (x7 + 1))) else (none)) else (none)) else (none)) else (some x3)
def chancerykeep1_letters.f (k : Nat) (a0 : ByteArray) : Option ((List (S26))) := chancerykeep1_letters.l0 k a0 ([] : List (S26)) (a0.size : Int) 0
set_option maxHeartbeats 8000000 in
set_option maxRecDepth 100000 in
theorem chancerykeep1_letters.calls (k : Nat) (a0 : ByteArray) (r : List (S26)) (w : World) (h : chancerykeep1_letters.f k a0 = some r) :
  Calls Try.prog 48 #[.string a0] w fun e w' => ∃ v0_ : Value, e = .returned (v0_) ∧ Kd.S k26 26 w' w.heap.size (fun _ => True) v0_ r ∧ Below w.heap.size w w' := by
 have hu26 := Try.underlying26
 have HB := Aside0.mk (Below.refl w.heap.size w)
 have H : (chancerykeep1_letters.l0 k a0 ([] : List (S26)) (a0.size : Int) 0) = some r := h
 clear h
 have H' := Aside0.mk H
 clear H
 go_enter Try.func48, Try.ntmps48
 go_wp2
 go_loopg [3, 7] k (fun kq v3 v7 w' => ∃ (x3_1 : List (S26)) (x7_1 : Int), v7 = .int .i64 x7_1 ∧ Aside0 (chancerykeep1_letters.l0 kq a0 x3_1 (a0.size : Int) x7_1 = some r) ∧ Aside0 (kq ≤ k) ∧ Aside0 (Kd.S k26 26 w' w.heap.size (fun _ => True) v3 x3_1) ∧ Aside0 (Below w.heap.size w w'))
 case atStart => exact ⟨(([] : List (S26))), (0), (by first | rfl | (simp; done) | (simp [*]; done)), H', ⟨Nat.le_refl _⟩, ⟨by first | exact Kd.S_nil _ _ _ _ _ | exact Kd.N_nil _ _ _ _ _ | exact Kd.V_nil _ _ _ _ _ | exact Kd.Q_nil _ _ _ _ _ | exact Kd.R_nil _ _ _ _ _⟩, ⟨by repeat (first | (with_reducible first | exact HB.out | apply below_alloc | apply pw_below_drewN | apply below_drew1) | exact HB.out)⟩⟩
 case round =>
  clear H'
  try clear p1
  obtain ⟨x3_1, x7_1, rfl, HA, HK1, HO_3, HB⟩ := hrel
  cases gk with
  | zero => exact absurd HA.out (by simp [chancerykeep1_letters.l0])
  | succ k1 =>
   have H := HA.out
   clear HA
   simp only [chancerykeep1_letters.l0] at H
   by_cases c2 : x7_1 < (a0.size : Int)
   ·rw [if_pos c2] at H
    have c2b0 : decide (x7_1 < (a0.size : Int)) = true := decide_eq_true c2
    clear c2
    by_cases c3 : 0 ≤ x7_1
    ·rw [if_pos c3] at H
     have c3b0 : decide (0 ≤ x7_1) = true := decide_eq_true c3
     clear c3
     by_cases c4 : x7_1 < (a0.size : Int)
     ·rw [if_pos c4] at H
      have c4b0 : decide (x7_1 < (a0.size : Int)) = true := decide_eq_true c4
      clear c4
      by_cases c6 : x3_1.length < 3518437208883
      ·rw [if_pos c6] at H
       have LMc6 := Aside0.mk c6
       clear c6
       obtain ⟨y232, hy232⟩ : ∃ y_ : List (S26), y_ = (x3_1 ++ [(⟨wrap64 (bt a0 x7_1), 0, ([] : List (S91))⟩ : S26)]) := ⟨_, rfl⟩
       replace H : (chancerykeep1_letters.l0 k1 a0 y232 (a0.size : Int) (wrap64 (x7_1 + 1))) = some r := by first | (rw [hy232]; with_reducible exact H) | (have H2_ := (Option.bind_some _ _).symm.trans H; rw [hy232]; with_reducible exact H2_) | (have H2_ := (Option.bind_some _ _).symm.trans H; with_reducible exact H2_) | with_reducible exact H | (rw [hy232]; exact H) | exact H
       have Ny232 := Aside0.mk hy232
       clear hy232
       have H' := Aside0.mk H
       clear H
       have p5 : 0 ≤ (x7_1 : Int) := of_decide_eq_true (by assumption)
       have q5 : x7_1 < (a0.size : Int) := of_decide_eq_true (by assumption)
       have hx5 := bt_at a0 x7_1
       replace p5 := eq_true p5
       replace q5 := eq_true q5
       go_wp2_with (first | ((with_reducible refine gate_builtin (b := .append) (xs := #[.tmp 10, .tmp 16]) rfl ?_); at_builtin; refine Kd.S_append k26 (w0 := w) w.heap.size rfl (.tmp 10) (.tmp 16) 22 26 (.agg #[(.int .i64 0), (.int .i64 0), (.slice none 0 0)]) 40 rfl Try.underlying22 info26 rfl (by decide) (by omega) u3 x3_1 (⟨wrap64 (bt a0 x7_1), 0, ([] : List (S91))⟩ : S26) [.int .i64 (wrap64 (bt a0 x7_1)), .int .i64 0, .slice none 0 0] (fun _ => True) (fun _ => False) rfl rfl ?aP (fun k_ hk_ => hk_.elim) ?aF ?aO ?aB ?aS ?aL ?_; (case aP => exact k26_mkM _ _ _ (⟨wrap64 (bt a0 x7_1), 0, ([] : List (S91))⟩ : S26) (Kd.R_nil _ _ _ _ _)); (case aB => exact (by with_reducible repeat first | exact HB.out | apply below_alloc | apply pw_below_drewN | apply below_drew1)); (case aF => exact (fun _ _ => trivial)); (case aO => exact (by (with_reducible repeat (first | apply Kd.S_alloc | apply Kd.S_drewN | apply Kd.S_drew)); exact Kd.S_mono HO_3.out (fun k_ hk => ⟨trivial, fun e_ => e_⟩))); (case aS => exact (below_size (by with_reducible repeat first | exact HB.out | apply below_alloc | apply pw_below_drewN | apply below_drew1))); (case aL => have := LMc6.out; omega); intro v233 w7 ho hb hg hat; rw [← Ny232.out] at ho; have n0_ := Aside0.mk (hb); have n1_ := Aside0.mk (ho); clear HB; clear HO_3; have HB := n0_; have HO234 := n1_; clear n0_ n1_; clear ho hb hg hat))
       go_roundg k1
       case measure => have := HK1.out; omega
       case rel => exact ⟨(y232), (wrap64 (x7_1 + 1)), (by first | rfl | (simp; done) | (simp [*]; done)), H', ⟨by have := HK1.out; omega⟩, ⟨by (with_reducible repeat (first | apply Kd.S_alloc | apply Kd.S_drewN | apply Kd.S_drew)); exact HO234.out⟩, ⟨by repeat (first | (with_reducible first | exact HB.out | apply below_alloc | apply pw_below_drewN | apply below_drew1) | exact HB.out)⟩⟩
      ·rw [if_neg c6] at H
       exact absurd H (by simp)
     ·rw [if_neg c4] at H
      exact absurd H (by simp)
    ·rw [if_neg c3] at H
     exact absurd H (by simp)
   ·rw [if_neg c2] at H
    have c2b0 : decide (x7_1 < (a0.size : Int)) = false := decide_eq_false c2
    clear c2
    obtain rfl := Option.some.inj H
    go_wp2
    go_ret
    exact ⟨_, by first | rfl | (simp [errW_none, errW_some] <;> rfl) | (simp [*, errW_none, errW_some] <;> rfl), by (with_reducible repeat (first | apply Kd.S_alloc | apply Kd.S_drewN | apply Kd.S_drew)); exact HO_3.out, by repeat (first | (with_reducible first | exact HB.out | apply below_alloc | apply pw_below_drewN | apply below_drew1) | exact HB.out)⟩
end Go.Proofs.Ytlcodfjlbhjkbaa.PDelta
end
section
namespace Go.Proofs.Ytlcodfjlbhjkbaa.PDelta
open Go.RowKit Go.Proofs.YtlcodfjlbhjkbaaW.PrintWords Go.Proofs.YtlcodfjlbhjkbaaW.PrintLast Go.Proofs.YtlcodfjlbhjkbaaW.PrintMore
theorem let_ab : chancerykeep1_letters.f 20 (⟨#[97, 98]⟩ : ByteArray) = some [⟨97, 0, []⟩, ⟨98, 0, []⟩] := by kernel_rfl
theorem let_x : chancerykeep1_letters.f 20 (⟨#[120]⟩ : ByteArray) = some [⟨120, 0, []⟩] := by kernel_rfl
theorem let_xb : chancerykeep1_letters.f 20 (⟨#[120, 98]⟩ : ByteArray) = some [⟨120, 0, []⟩, ⟨98, 0, []⟩] := by kernel_rfl
theorem app_ab : delta_Apply.f 40 [⟨97, 0, []⟩, ⟨98, 0, []⟩] [⟨1, 0, [], [⟨120, 0, []⟩]⟩, ⟨2, 1, [], []⟩, ⟨0, 1, [], []⟩] = some ([⟨120, 0, []⟩, ⟨98, 0, []⟩], 0) := by kernel_rfl
theorem same_xb : chanceryref1_SameFlow.f 40 [⟨120, 0, []⟩, ⟨98, 0, []⟩] [⟨120, 0, []⟩, ⟨98, 0, []⟩] = some true := by kernel_rfl
set_option maxRecDepth 100000 in
set_option maxHeartbeats 800000 in
theorem deltas_calls (w : World) : Calls Try.prog 13 #[] w fun e w' => e = .returned (.bool true) ∧ Below w.heap.size w w' := by
 have hu95 := Try.underlying95
 have HB0 := Aside0.mk (Below.refl w.heap.size w)
 obtain ⟨la, hla⟩ : ∃ l : List S26, l = [⟨97, 0, []⟩, ⟨98, 0, []⟩] := ⟨_, rfl⟩
 obtain ⟨lx, hlx⟩ : ∃ l : List S26, l = [⟨120, 0, []⟩] := ⟨_, rfl⟩
 obtain ⟨lr, hlr⟩ : ∃ l : List S26, l = [⟨120, 0, []⟩, ⟨98, 0, []⟩] := ⟨_, rfl⟩
 have H1 := Aside0.mk let_ab
 have H2 := Aside0.mk let_x
 have H3 := Aside0.mk app_ab
 have H4 := Aside0.mk let_xb
 have H5 := Aside0.mk same_xb
 rw [← hla] at H1 H3
 rw [← hlx] at H2 H3
 obtain ⟨ld, hld⟩ : ∃ l : List S95, l = [⟨1, 0, [], lx⟩, ⟨2, 1, [], []⟩, ⟨0, 1, [], []⟩] := ⟨_, rfl⟩
 rw [← hld] at H3
 have HLD := Aside0.mk hld
 clear hld
 rw [← hlr] at H3 H4 H5
 clear hla hlx hlr
 go_enter Try.func13, Try.ntmps13
 go_upto_region 2 with (first
  | (go_at_call 48; with_reducible refine (chancerykeep1_letters.calls 20 _ la _ H1.out).mono ?_; rintro e w1 ⟨v1, rfl, hN1, hb1⟩; obtain ⟨A1, n1, rfl⟩ := Kd.S_slice hN1; have HN1 := Aside0.mk hN1; have HB1 := Aside0.mk hb1; clear hN1 hb1)
  | (go_at_call 48; with_reducible refine (chancerykeep1_letters.calls 20 _ lx _ H2.out).mono ?_; rintro e w2 ⟨v2, rfl, hN2, hb2⟩; obtain ⟨A2, n2, rfl⟩ := Kd.S_slice hN2; have HN2 := Aside0.mk hN2; have HB2 := Aside0.mk (below_step HB1.out hb2); have HN1' := Aside0.mk (Kd.S_below HN1.out hb2); clear hN2 hb2 HN1)
  | ((with_reducible refine gate_dst (N := 9) rfl ?_); refine Kd.N_lit k95 w2.heap.size 95 ?hg (N' := 9) ?hd (xs := [⟨1, 0, [], lx⟩, ⟨2, 1, [], []⟩, ⟨0, 1, [], []⟩]) (inner := [.int .i64 1, .int .i64 0, .slice none 0 0, .slice A2 lx.length n2, .int .i64 2, .int .i64 1, .slice none 0 0, .slice none 0 0, .int .i64 0, .int .i64 1, .slice none 0 0, .slice none 0 0]) (ok := fun _ => True) (okp := fun _ => True) ?hr ?hp (fun _ hk => hk) trivial (Below.refl _ _) (Nat.le_refl _) (by simp) ?_; (case hd => rfl); (case hg => rfl); (case hr => first | (go_simp; done) | (go_simp; rfl)); (case hp => exact Reps.c4 (k95_mkF _ _ ⟨1, 0, [], lx⟩ (Nat.le_refl 0) (Kd.F_nil _ _ _) (Kd.N_reads' (Kd.S_N HN2.out)).2.1 (Kd.S_F HN2.out)) (Reps.c4 (k95_mkF _ _ ⟨2, 1, [], []⟩ (Nat.le_refl 0) (Kd.F_nil _ _ _) (Nat.le_refl 0) (Kd.F_nil _ _ _)) (Reps.c4 (k95_mkF _ _ ⟨0, 1, [], []⟩ (Nat.le_refl 0) (Kd.F_nil _ _ _) (Nat.le_refl 0) (Kd.F_nil _ _ _)) (Reps.none _ _)))); intro v3 w3 hN3 hb3 hg3 hat3; rw [← HLD.out] at hN3; obtain ⟨A3, n3, rfl⟩ := Kd.N_slice hN3; have HN3 := Aside0.mk hN3; have HB3 := Aside0.mk (below_step HB2.out hb3); have HN1 := Aside0.mk (Kd.S_below HN1'.out hb3); clear hN3 hb3 hg3 hat3 HN1')
  | (go_at_call 22; with_reducible refine (delta_Apply.calls 40 (fun _ => True) A1 n1 la A3 n3 ld lr 0 _ (Kd.S_V HN1.out) (Kd.N_reads' HN3.out).2.2 (Kd.N_reads' HN3.out).2.1 H3.out).mono ?_; rintro e w4 ⟨v4, rfl, hN4, hb4⟩; obtain ⟨A4, n4, rfl⟩ := Kd.N_slice hN4; have HN4 := Aside0.mk hN4; have HB4 := Aside0.mk (below_step HB3.out hb4); clear hN4 hb4))
 go_wp2_with (first
  | (go_at_call 48; with_reducible refine (chancerykeep1_letters.calls 20 _ lr _ H4.out).mono ?_; rintro e w5 ⟨v5, rfl, hN5, hb5⟩; obtain ⟨A5, n5, rfl⟩ := Kd.S_slice hN5; have HN5 := Aside0.mk hN5; have HB5 := Aside0.mk (below_step HB4.out hb5); have HN4' := Aside0.mk (Kd.N_below HN4.out hb5); clear hN5 hb5 HN4)
  | (go_at_call 28; with_reducible refine (chanceryref1_SameFlow.calls 40 A4 n4 lr A5 n5 lr true _ (Kd.N_reads' HN4'.out).2.2 (Kd.N_reads' HN4'.out).2.1 (Kd.N_reads' (Kd.S_N HN5.out)).2.2 (Kd.N_reads' (Kd.S_N HN5.out)).2.1 H5.out).mono ?_; rintro e w6 ⟨rfl, hb6⟩; have HB6 := Aside0.mk (below_step HB5.out hb6); clear hb6))
 go_ret
 exact ⟨rfl, HB6.out⟩
end Go.Proofs.Ytlcodfjlbhjkbaa.PDelta
end
section
namespace Go.Proofs.Ytlcodfjlbhjkbaa.PDelta
open Go.RowKit Go.Proofs.YtlcodfjlbhjkbaaW.PrintWords Go.Proofs.YtlcodfjlbhjkbaaW.PrintLast Go.Proofs.YtlcodfjlbhjkbaaW.PrintMore
attribute [local go_sem] max2_int min2_int max_two min_two max_three min_three max_four min_four
attribute [local go_sem high] Go.Proofs.Ytlcodfjlbhjkbaa.Ord.leq_str Go.Proofs.Ytlcodfjlbhjkbaa.Ord.gtr_str Go.Proofs.Ytlcodfjlbhjkbaa.Ord.geq_str
def span_end.f (l0 : List (S44)) (a1 : Int) : Option (Int) := if (Int.tmod a1 2) = 0 then (if 0 ≤ (wrap64 (Int.tdiv a1 2)) then (if (wrap64 (Int.tdiv a1 2)) < (l0.length : Int) then (some ((rd_T44 l0 (wrap64 (Int.tdiv a1 2))).f0)) else (none)) else (none)) else (if 0 ≤ (wrap64 (Int.tdiv a1 2)) then (if (wrap64 (Int.tdiv a1 2)) < (l0.length : Int) then (some ((rd_T44 l0 (wrap64 (Int.tdiv a1 2))).f1)) else (none)) else (none))
set_option maxHeartbeats 8000000 in
set_option maxRecDepth 100000 in
theorem span_end.calls (A0 : Option Addr) (c0 : Nat) (l0 : List (S44)) (a1 : Int) (r : Int) (w : World) (hr0 : Kd.C k44 w A0 l0.length l0) (hc0 : l0.length ≤ c0) (h : span_end.f l0 a1 = some r) :
  Calls Try.prog 159 #[.slice A0 l0.length c0, .int .i64 a1] w fun e w' => e = .returned (.int .i64 r) ∧ Drawn0 w w' := by
 have HR0 := Aside0.mk hr0
 have HC0 := Aside0.mk hc0
 clear hr0 hc0
 have H : (if (Int.tmod a1 2) = 0 then (if 0 ≤ (wrap64 (Int.tdiv a1 2)) then (if (wrap64 (Int.tdiv a1 2)) < (l0.length : Int) then (some ((rd_T44 l0 (wrap64 (Int.tdiv a1 2))).f0)) else (none)) else (none)) else (if 0 ≤ (wrap64 (Int.tdiv a1 2)) then (if (wrap64 (Int.tdiv a1 2)) < (l0.length : Int) then (some ((rd_T44 l0 (wrap64 (Int.tdiv a1 2))).f1)) else (none)) else (none))) = some r := h
 clear h
 by_cases c3 : (Int.tmod a1 2) = 0
 ·rw [if_pos c3] at H
  have c3b0 : ((Int.tmod a1 2) == 0) = true := beq_iff_eq.mpr c3
  have c3b1 : ((Int.tmod a1 2) != 0) = false := bne_eq_false_iff_eq.mpr c3
  clear c3
  obtain ⟨ji4, hji4⟩ : ∃ j_ : Int, (wrap64 (Int.tdiv a1 2)) = j_ := ⟨_, rfl⟩
  replace H : (if 0 ≤ (ji4) then (if (ji4) < (l0.length : Int) then (some ((rd_T44 l0 (ji4)).f0)) else (none)) else (none)) = some r := by first | (rw [hji4] at H; exact H) | (simp only [hji4] at H ⊢; exact H)
  have hji4w : (IntKind.i64.wrap (Int.tdiv a1 2)) = ji4 := (i64_w _).trans hji4
  by_cases c5 : 0 ≤ (ji4)
  ·rw [if_pos c5] at H
   have c5b0 : decide (0 ≤ (ji4)) = true := decide_eq_true c5
   clear c5
   by_cases c6 : (ji4) < (l0.length : Int)
   ·rw [if_pos c6] at H
    have c6b0 : decide ((ji4) < (l0.length : Int)) = true := decide_eq_true c6
    clear c6
    obtain rfl := Option.some.inj H
    have p396 : 0 ≤ ((ji4) : Int) := of_decide_eq_true (by assumption)
    have q396 : (ji4) < (l0.length : Int) := of_decide_eq_true (by assumption)
    obtain ⟨ad396, e396, hx396_0, hx396_1⟩ := at_T44 HR0.out (ji4) p396 q396
    cases e396
    replace p396 := eq_true p396
    replace q396 := eq_true q396
    go_enter Try.func159, Try.ntmps159
    go_wp2
    go_ret
    exact ⟨by first | rfl | (simp; done) | (simp only [← hji4] <;> (first | rfl | simp)) | (simp [*]; done), by repeat (first | exact Drawn0.refl _ | apply Drawn0.step)⟩
   ·rw [if_neg c6] at H
    exact absurd H (by simp)
  ·rw [if_neg c5] at H
   exact absurd H (by simp)
 ·rw [if_neg c3] at H
  have c3b0 : ((Int.tmod a1 2) == 0) = false := beq_eq_false_iff_ne.mpr c3
  have c3b1 : ((Int.tmod a1 2) != 0) = true := bne_iff_ne.mpr c3
  obtain ⟨ji7, hji7⟩ : ∃ j_ : Int, (wrap64 (Int.tdiv a1 2)) = j_ := ⟨_, rfl⟩
  replace H : (if 0 ≤ (ji7) then (if (ji7) < (l0.length : Int) then (some ((rd_T44 l0 (ji7)).f1)) else (none)) else (none)) = some r := by first | (rw [hji7] at H; exact H) | (simp only [hji7] at H ⊢; exact H)
  have hji7w : (IntKind.i64.wrap (Int.tdiv a1 2)) = ji7 := (i64_w _).trans hji7
  by_cases c8 : 0 ≤ (ji7)
  ·rw [if_pos c8] at H
   have c8b0 : decide (0 ≤ (ji7)) = true := decide_eq_true c8
   clear c8
   by_cases c9 : (ji7) < (l0.length : Int)
   ·rw [if_pos c9] at H
    have c9b0 : decide ((ji7) < (l0.length : Int)) = true := decide_eq_true c9
    clear c9
    obtain rfl := Option.some.inj H
    have p397 : 0 ≤ ((ji7) : Int) := of_decide_eq_true (by assumption)
    have q397 : (ji7) < (l0.length : Int) := of_decide_eq_true (by assumption)
    obtain ⟨ad397, e397, hx397_0, hx397_1⟩ := at_T44 HR0.out (ji7) p397 q397
    cases e397
    replace p397 := eq_true p397
    replace q397 := eq_true q397
    go_enter Try.func159, Try.ntmps159
    go_wp2
    go_ret
    exact ⟨by first | rfl | (simp; done) | (simp only [← hji7] <;> (first | rfl | simp)) | (simp [*]; done), by repeat (first | exact Drawn0.refl _ | apply Drawn0.step)⟩
   ·rw [if_neg c9] at H
    exact absurd H (by simp)
  ·rw [if_neg c8] at H
   exact absurd H (by simp)
def chanceryref1_Within.f (a0 : Int) (a1 : Int) (a2 : Int) : Option (Int) := if (wrap64 ((wrap64 (a2 - a1)) + 1)) = 0 then (none) else (some (wrap64 (a1 + (Int.tmod (wrap64 ((Int.tmod a0 (wrap64 ((wrap64 (a2 - a1)) + 1))) + (wrap64 ((wrap64 (a2 - a1)) + 1)))) (wrap64 ((wrap64 (a2 - a1)) + 1))))))
set_option maxHeartbeats 8000000 in
set_option maxRecDepth 100000 in
theorem chanceryref1_Within.calls (a0 : Int) (a1 : Int) (a2 : Int) (r : Int) (w : World) (h : chanceryref1_Within.f a0 a1 a2 = some r) :
  Calls Try.prog 20 #[.int .i64 a0, .int .i64 a1, .int .i64 a2] w fun e w' => e = .returned (.int .i64 r) ∧ Drawn0 w w' := by
 have H : (if (wrap64 ((wrap64 (a2 - a1)) + 1)) = 0 then (none) else (some (wrap64 (a1 + (Int.tmod (wrap64 ((Int.tmod a0 (wrap64 ((wrap64 (a2 - a1)) + 1))) + (wrap64 ((wrap64 (a2 - a1)) + 1)))) (wrap64 ((wrap64 (a2 - a1)) + 1))))))) = some r := h
 clear h
 by_cases c4 : (wrap64 ((wrap64 (a2 - a1)) + 1)) = 0
 ·rw [if_pos c4] at H
  exact absurd H (by simp)
 ·rw [if_neg c4] at H
  have c4b0 : ((wrap64 ((wrap64 (a2 - a1)) + 1)) == 0) = false := beq_eq_false_iff_ne.mpr c4
  have c4b1 : ((wrap64 ((wrap64 (a2 - a1)) + 1)) != 0) = true := bne_iff_ne.mpr c4
  obtain rfl := Option.some.inj H
  go_enter Try.func20, Try.ntmps20
  go_wp2
  go_ret
  exact ⟨by first | rfl | (simp; done) | (simp [*]; done), by repeat (first | exact Drawn0.refl _ | apply Drawn0.step)⟩
def chancerykeep1_on.f (a0 : ByteArray) : Option ((List (S91))) := some (([(⟨a0, (⟨#[111, 110]⟩ : ByteArray)⟩ : S91)] : List (S91)))
set_option maxHeartbeats 8000000 in
set_option maxRecDepth 100000 in
theorem chancerykeep1_on.calls (a0 : ByteArray) (r : List (S91)) (w : World) (h : chancerykeep1_on.f a0 = some r) :
  Calls Try.prog 53 #[.string a0] w fun e w' => ∃ v0_ : Value, e = .returned (v0_) ∧ Kd.R k91 91 w' w.heap.size (fun _ => True) v0_ r ∧ Below w.heap.size w w' := by
 have hu91 := Try.underlying91
 have HB := Aside0.mk (Below.refl w.heap.size w)
 have H : (some (([(⟨a0, (⟨#[111, 110]⟩ : ByteArray)⟩ : S91)] : List (S91)))) = some r := h
 clear h
 obtain ⟨y406, hy406⟩ : ∃ y_ : List (S91), y_ = (([(⟨a0, (⟨#[111, 110]⟩ : ByteArray)⟩ : S91)] : List (S91))) := ⟨_, rfl⟩
 replace H : (some y406) = some r := by first | (rw [hy406]; with_reducible exact H) | (have H2_ := (Option.bind_some _ _).symm.trans H; rw [hy406]; with_reducible exact H2_) | (have H2_ := (Option.bind_some _ _).symm.trans H; with_reducible exact H2_) | with_reducible exact H | (rw [hy406]; exact H) | exact H
 have Ny406 := Aside0.mk hy406
 clear hy406
 obtain rfl := Option.some.inj H
 go_enter Try.func53, Try.ntmps53
 go_wp2_with (first | ((with_reducible refine gate_dst (N := 5) rfl ?_); refine Kd.R_lit k91 _ 91 ?hg (N := 5) ?hd (xs := ([(⟨a0, (⟨#[111, 110]⟩ : ByteArray)⟩ : S91)] : List (S91))) (inner := [.string a0, .string (⟨#[111, 110]⟩ : ByteArray)]) (ok := fun _ => True) (okp := fun _ => True) ?hr ?hp (fun _ hk => hk) trivial (Below.refl _ _) (Nat.le_refl _) (by simp) ?_; (case hd => rfl); (case hg => rfl); (case hr => first | (go_simp; done) | (go_simp; rfl)); (case hp => exact (Reps.c2 (show Kd.M k91 _ _ _ (⟨a0, (⟨#[111, 110]⟩ : ByteArray)⟩ : S91) [.string a0, .string (⟨#[111, 110]⟩ : ByteArray)] from (k91_mkM _ _ _ (⟨a0, (⟨#[111, 110]⟩ : ByteArray)⟩ : S91) )) (Reps.none _ _))); intro v407 w2 ho3 hb hg_ hnew_; clear hg_ hnew_; (first | rw [← Ny406.out] at ho3 | (simp only [Int.reduceToNat] at ho3; rw [← Ny406.out] at ho3)); have n0_ := Aside0.mk (Kd.R_lower ho3 (below_size (by with_reducible repeat first | exact HB.out | apply below_alloc | apply pw_below_drewN | apply below_drew1))); have n1_ := Aside0.mk (below_step (by with_reducible repeat first | exact HB.out | apply below_alloc | apply pw_below_drewN | apply below_drew1) hb); clear HB; have HO408 := n0_; have HB := n1_; clear n0_ n1_; clear hb ho3))
 go_ret
 exact ⟨_, by first | rfl | (simp [errW_none, errW_some] <;> rfl) | (simp [*, errW_none, errW_some] <;> rfl), by (with_reducible repeat (first | apply Kd.R_alloc | apply Kd.R_drewN | apply Kd.R_drew)); exact HO408.out, by repeat (first | (with_reducible first | exact HB.out | apply below_alloc | apply pw_below_drewN | apply below_drew1) | exact HB.out)⟩
end Go.Proofs.Ytlcodfjlbhjkbaa.PDelta
end
section
namespace Go.Proofs.Ytlcodfjlbhjkbaa.PDelta
open Go.RowKit Go.Proofs.YtlcodfjlbhjkbaaW.PrintWords Go.Proofs.YtlcodfjlbhjkbaaW.PrintLast Go.Proofs.YtlcodfjlbhjkbaaW.PrintMore
structure DiceSt (w0 : World) (g : Nat) (raw : List Int) (u : Nat) (w : World) : Prop where
 ex : ∃ (A : Option Addr) (c : Nat), w.heap[g]? = some (.cells #[.slice A raw.length c, .int .i64 (u : Int)] 79 (0, 0)) ∧ Kd.C (Kd.int .i64) w0 A raw.length raw ∧ raw.length ≤ c
theorem wrap_mid {i : Int} (h0 : 0 ≤ i) (h : i ≤ 4611686018427387904) : wrap64 i = i := by unfold wrap64; omega
theorem wrap_k {i : Int} (h0 : 0 ≤ i) (h : i ≤ 4611686018427387904) : IntKind.i64.wrap i = i := by rw [i64_w]; exact wrap_mid h0 h
theorem add_block (a : Addr) (n : Nat) : (a.add n).block = a.block := by unfold Go.Addr.add; split <;> rfl
def rollF (raw : List Int) (u : Nat) (n : Int) : Option Int :=
 if raw.length = 0 then some 0 else chanceryref1_Within.f (wrap64 (rd raw ((u % raw.length : Nat) : Int) + (((u + 1) / raw.length : Nat) : Int))) 0 (wrap64 (n - 1))
def rollU (raw : List Int) (u : Nat) : Nat := if raw.length = 0 then u else u + 1
set_option maxRecDepth 100000 in
set_option maxHeartbeats 4000000 in
theorem roll_calls (w0 : World) (g : Nat) (raw : List Int) (u : Nat) (n r : Int) (w : World) (h0 : w0.heap.size ≤ g) (h : DiceSt w0 g raw u w) (hB : Below w0.heap.size w0 w) (hu : u < 4611686018427387904) (hf : rollF raw u n = some r) :
  Calls Try.prog 40 #[.pointer (some ⟨g, 0, none⟩), .int .i64 n] w fun e w' => e = .returned (.int .i64 r) ∧ DiceSt w0 g raw (rollU raw u) w' ∧ (w.heap.size ≤ w'.heap.size ∧ ∀ k, k < w.heap.size → k ≠ g → w'.heap[k]? = w.heap[k]?) ∧ Below w0.heap.size w0 w' := by
 have hu79 := Try.underlying79
 obtain ⟨A, c, hb, hC, hc⟩ := h.ex
 have hc0 : w.cell? ⟨g, 0, none⟩ = some (.slice A raw.length c) := (blk_cell hb 0).trans rfl
 have hc1 : w.cell? ⟨g, 1, none⟩ = some (.int .i64 (u : Int)) := (blk_cell hb 1).trans rfl
 have hf1 := blk_frozen hb 1
 have HB := Aside0.mk hB
 have HC := Aside0.mk hC
 have HBL := Aside0.mk hb
 have HCC := Aside0.mk hc
 have H0 := Aside0.mk h0
 have HS := Aside0.mk h
 clear h hb hC hB hc h0
 by_cases c1 : raw.length = 0
 ·have e' : rollU raw u = u := if_pos c1
  rw [rollF, if_pos c1] at hf
  injection hf with hf
  subst hf
  have c1b : ((raw.length : Int) == 0) = true := beq_iff_eq.mpr (by omega)
  have c1c : (raw.length == 0) = true := beq_iff_eq.mpr c1
  rw [e']
  clear e' c1
  go_enter Try.func40, Try.ntmps40
  go_wp2
  first | go_ret | go_ret2
  exact ⟨rfl, HS.out, ⟨Nat.le_refl _, fun _ _ _ => rfl⟩, HB.out⟩
 ·have e' : rollU raw u = u + 1 := if_neg c1
  rw [rollF, if_neg c1] at hf
  have c1b : ((raw.length : Int) == 0) = false := beq_eq_false_iff_ne.mpr (by omega)
  have c1c : (raw.length == 0) = false := beq_eq_false_iff_ne.mpr c1
  rw [e']
  have hlen : 0 < raw.length := by omega
  have hm' : u % raw.length < raw.length := Nat.mod_lt _ hlen
  have hmu : u % raw.length ≤ u := Nat.mod_le _ _
  have hqu : (u + 1) / raw.length ≤ u + 1 := Nat.div_le_self _ _
  have t1 : Int.tmod (u : Int) (raw.length : Int) = ((u % raw.length : Nat) : Int) := rfl
  have t2 : Int.tdiv ((u : Int) + 1) (raw.length : Int) = (((u + 1) / raw.length : Nat) : Int) := rfl
  obtain ⟨m, hm⟩ : ∃ m, m = u % raw.length := ⟨_, rfl⟩
  obtain ⟨q, hq⟩ : ∃ q, q = (u + 1) / raw.length := ⟨_, rfl⟩
  rw [← hm] at t1 hf hm' hmu
  rw [← hq] at t2 hf hqu
  clear hm hq
  obtain ⟨ad0, e0, hx0⟩ := Kd.at_int HC.out (m : Int) (by omega) (by omega)
  cases e0
  have HGN : Aside0 (g ≠ ad0.block) := ⟨fun e => by have := World.block_lt_of_cell? w0 _ hx0; have := H0.out; rw [add_block] at *; omega⟩
  replace hx0 := (HB.out.cell (World.block_lt_of_cell? w0 _ hx0)).trans hx0
  replace hx0 := (World.cell?_setCell_far w ⟨g, 1, none⟩ (ad0.add ((m : Int)).toNat) (.int .i64 ((u : Int) + 1)) (by rw [add_block]; exact HGN.out)).trans hx0
  simp only [Int.toNat_natCast] at hx0
  have w1 : wrap64 ((u : Int) + 1) = (u : Int) + 1 := wrap_mid (by omega) (by omega)
  have w2 : wrap64 (((u : Int) + 1) - 1) = (u : Int) := by rw [Int.add_sub_cancel]; exact wrap_mid (by omega) (by omega)
  have w3 : IntKind.i64.wrap (u : Int) = (u : Int) := wrap_k (by omega) (by omega)
  have w5 : IntKind.i64.wrap (m : Int) = (m : Int) := wrap_k (by omega) (by omega)
  have w6 : IntKind.i64.wrap (q : Int) = (q : Int) := wrap_k (by omega) (by omega)
  have HF := Aside0.mk hf
  have q0 : (m : Int) < (raw.length : Int) := by omega
  have q1 : m < raw.length := by omega
  have c1d : ¬ ((raw.length : Int) = 0) := by omega
  clear e' hf hu hmu hqu
  go_enter Try.func40, Try.ntmps40
  go_wp2
  refine wp_region_still_tail 30 (by kernel_rfl) (by kernel_rfl) ?_
  simp only [List.take_succ_cons, List.take_zero, List.drop_succ_cons, List.drop_zero]
  change wpStill _ _ (World.drew _) (fun a' => wpList _ _ _ _ a' (World.drew _)) _ _
  repeat still_step
  refine wpStill_nil ?_
  go_wp2_with (go_at_call 20; (with_reducible refine (chanceryref1_Within.calls _ _ _ r _ HF.out).mono ?_); rintro e1 w5 ⟨rfl, hd⟩; have HDR := Aside0.mk hd; clear hd)
  first | go_ret | go_ret2
  have hs : w.heap.size = (w.setCell ⟨g, 1, none⟩ (.int .i64 ((u : Int) + 1))).heap.size := by simp [World.setCell]
  have hbb := Below.refl (w.setCell ⟨g, 1, none⟩ (.int .i64 ((u : Int) + 1))).heap.size (w.setCell ⟨g, 1, none⟩ (.int .i64 ((u : Int) + 1)))
  have hbd := below_step (below_drew1 hbb) HDR.out.below
  refine ⟨rfl, ⟨_, _, (hbd.block g (by rw [← hs]; exact blk_lt HBL.out)).trans (blk_put HBL.out 1 _ rfl), HC.out, HCC.out⟩, ⟨by rw [hs]; exact hbd.size, fun k hk hg => ?_⟩, below_step (below_set HB.out H0.out) hbd⟩
  rw [hbd.block k (by rw [← hs]; exact hk), Below.heap_setCell _ _ _ _ hg]
section
variable {ok : Nat → Prop} {w0 wI w w1 : World} {g : Nat} {vI uI v u v1 u1 : Value} {out out' : List S95} {add add' : List S26} {cut : Int}
end
def addD (out : List S95) (add : List S26) : List S95 := if 0 < add.length then out ++ [⟨1, 0, [], add⟩] else out
def cutD (out : List S95) (cut : Int) : List S95 := if 0 < cut then out ++ [⟨2, cut, [], []⟩] else out
def flushD (out : List S95) (add : List S26) (cut : Int) : List S95 := cutD (addD out add) cut
section
variable {ok : Nat → Prop} {w0 wI w w1 : World} {g : Nat} {vI uI v u v1 u1 : Value} {out out' : List S95} {add add' : List S26} {cut : Int}
end
def keepO (o : List S95) (n : Int) (attrs : List S91) : Bool → List S95
 | true => o.set (o.length - 1) ⟨(rd_T95 o ((o.length : Int) - 1)).f0, wrap64 ((rd_T95 o ((o.length : Int) - 1)).f1 + n), (rd_T95 o ((o.length : Int) - 1)).f2, (rd_T95 o ((o.length : Int) - 1)).f3⟩
 | false => o ++ [⟨0, n, attrs, []⟩]
structure WD where
 out : List S95
 add : List S26
 cut : Int
theorem drop_T95 (l : List S95) (i : Nat) (h : i < l.length) : l.drop i = rd_T95 l (i : Int) :: l.drop (i + 1) := by
 rw [List.drop_eq_getElem_cons h]
 simp [rd_T95, List.getD_eq_getElem?_getD, List.getElem?_eq_getElem h]
def dofB (k : Nat) (o : List S95) (attrs : List S91) : Option Bool :=
 if 0 < o.length then (if (rd_T95 o ((o.length : Int) - 1)).f0 = 0 then chanceryref1_SameAttrs.f k (rd_T95 o ((o.length : Int) - 1)).f2 attrs else some false) else some false
def dofL (k : Nat) : List (List S26) → List Bool → List (List S91) → List S95 → List S26 → Int → Option (List S95)
 | a :: As, c :: Cs, t :: Ts, out, adds, cuts => if 1099511627776 < out.length ∨ 1099511627776 < adds.length + a.length then none else
  if c = true then dofL k As Cs Ts out (adds ++ a) (wrap64 (cuts + 1)) else (dofB k (flushD out (adds ++ a) cuts) t).bind fun b => dofL k As Cs Ts (keepO (flushD out (adds ++ a) cuts) 1 t b) [] 0
 | a :: _, [], _, out, adds, cuts => if 1099511627776 < out.length ∨ 1099511627776 < adds.length + a.length then none else some (flushD out (adds ++ a) cuts)
 | _, _, _, _, _, _ => none
structure DfO (w : World) (ga : Nat) (cs : Array Value) (out : List S95) (v : Value) (wr : World) : Prop where
 bk : wr.heap[ga]? = some (.cells cs 103 (0, 0))
 row : Kd.N k95 95 wr w.heap.size (fun _ => True) v out
 bel : Below w.heap.size w wr
structure DfS (w : World) (ga : Nat) (cs : Array Value) (out : List S95) (adds : List S26) (v u : Value) (wr : World) : Prop where
 bk : wr.heap[ga]? = some (.cells cs 103 (0, 0))
 row : Kd.N k95 95 wr w.heap.size (fun k => some k ≠ u.ownBlock) v out
 radd : Kd.N k26 26 wr w.heap.size (fun k => some k ≠ v.ownBlock) u adds
 bel : Below w.heap.size w wr
section
variable {w wr w1 : World} {ga : Nat} {cs : Array Value} {out out' : List S95} {adds adds' : List S26} {v u v1 u1 : Value}
theorem DfS.weak (h : DfS w ga cs out adds v u wr) : DfO w ga cs out v wr := ⟨h.bk, Kd.N_mono h.row (fun _ _ => trivial), h.bel⟩
theorem DfO.clear (h : DfO w ga cs out v wr) : DfS w ga cs out [] v (.slice none 0 0) wr := ⟨h.bk, Kd.N_mono h.row (fun _ _ => by simp [Value.ownBlock]), Kd.N_nil _ _ _ _ _, h.bel⟩
theorem DfO.app (h : DfO w ga cs out v wr) (hR : Kd.N k95 95 w1 w.heap.size (fun _ => True) v1 out') (hB : Below w.heap.size w w1) (hg : wr.grownBy w1 v.ownBlock) : DfO w ga cs out' v1 w1 := ⟨blk_grown h.bk hg (Kd.N_ne h.row h.bk (by decide)), hR, hB⟩
theorem DfO.drew (h : DfO w ga cs out v wr) : DfO w ga cs out v wr.drew := ⟨blk_drew h.bk, Kd.N_drew h.row, below_drew1 h.bel⟩
theorem DfO.drewN (h : DfO w ga cs out v wr) (n : Nat) : DfO w ga cs out v (wr.drewN n) := ⟨blk_drewN h.bk n, Kd.N_drewN h.row n, pw_below_drewN h.bel n⟩
theorem DfS.appu (h : DfS w ga cs out adds v u wr) (hR : Kd.N k26 26 w1 w.heap.size (fun k => some k ≠ v.ownBlock) u1 adds') (hB : Below w.heap.size w w1) (hg : wr.grownBy w1 u.ownBlock) (hat : u1.ownBlock = u.ownBlock ∨ ∃ b, u1.ownBlock = some b ∧ wr.heap.size ≤ b) : DfS w ga cs out adds' v u1 w1 :=
 ⟨blk_grown h.bk hg (Kd.N_ne h.radd h.bk (by decide)), Kd.N_mono (Kd.N_afterv (ok := fun _ => True) (Kd.N_mono h.row (fun _ hk => ⟨trivial, hk⟩)) hg hat) (fun _ hk => hk.2), hR, hB⟩
theorem DfS.far (h : DfS w ga cs out adds v u wr) (k : Nat) (hk : k < w.heap.size) : some k ≠ v.ownBlock ∧ some k ≠ u.ownBlock :=
 ⟨fun e => by have := Kd.N_base h.row k e.symm; omega, fun e => by have := Kd.N_base h.radd k e.symm; omega⟩
theorem DfS.fresh (h : DfS w ga cs out adds v u wr) (k : Nat) (hk : wr.heap.size ≤ k) : some k ≠ v.ownBlock ∧ some k ≠ u.ownBlock :=
 ⟨fun e => by have := Kd.N_lt h.row k e.symm; omega, fun e => by have := Kd.N_lt h.radd k e.symm; omega⟩
end
theorem drop_L5 (l : List (List S26)) (i : Nat) (h : i < l.length) : l.drop i = rd_L5 l (i : Int) :: l.drop (i + 1) := by
 rw [List.drop_eq_getElem_cons h]
 simp [rd_L5, List.getD_eq_getElem?_getD, List.getElem?_eq_getElem h]
theorem drop_L3 (l : List (List S91)) (i : Nat) (h : i < l.length) : l.drop i = rd_L3 l (i : Int) :: l.drop (i + 1) := by
 rw [List.drop_eq_getElem_cons h]
 simp [rd_L3, List.getD_eq_getElem?_getD, List.getElem?_eq_getElem h]
theorem drop_B (l : List Bool) (i : Nat) (h : i < l.length) : l.drop i = rdOf false l (i : Int) :: l.drop (i + 1) := by
 rw [List.drop_eq_getElem_cons h]
 simp [rdOf, List.getD_eq_getElem?_getD, List.getElem?_eq_getElem h]
set_option maxRecDepth 100000 in
set_option maxHeartbeats 4000000 in
theorem dof_calls (k : Nat) (A0 : Option Addr) (c0 : Nat) (l0 : List (List S26)) (A1 : Option Addr) (c1 : Nat) (l1 : List Bool) (A2 : Option Addr) (c2 : Nat) (l2 : List (List S91)) (r : List S95) (w : World) (h0 : Kd.C (Kd.slice 26 k26) w A0 l0.length l0) (h1 : Kd.C Kd.bool w A1 l1.length l1) (h2 : Kd.C (Kd.slice 91 k91) w A2 l2.length l2)
  (hl0 : l0.length = l1.length + 1) (hl2 : l2.length = l1.length) (hl : l1.length ≤ 1099511627776) (hf : dofL k l0 l1 l2 [] [] 0 = some r) :
  Calls Try.prog 54 #[.agg #[.slice A0 l0.length c0, .slice A1 l1.length c1, .slice A2 l2.length c2]] w fun e w' => ∃ v0_ : Value, e = .returned v0_ ∧ Kd.N k95 95 w' w.heap.size (fun _ => True) v0_ r ∧ Below w.heap.size w w' := by
 have hu95 := Try.underlying95
 have hu103 := Try.underlying103
 have HR0 := Aside0.mk h0
 have HR1 := Aside0.mk h1
 have HR2 := Aside0.mk h2
 have HL0 := Aside0.mk hl0
 have HL2 := Aside0.mk hl2
 have HLN := Aside0.mk hl
 have HZ := Aside0.mk (show dofL k (l0.drop 0) (l1.drop 0) (l2.drop 0) [] [] 0 = some r from hf)
 clear h0 h1 h2 hl0 hl2 hl hf
 go_enter Try.func54, Try.ntmps54
 go_wp2_with ((with_reducible refine gate_dst (N := 1) rfl ?_); refine box_event ?hg (N := 1) ?hd (cs := #[.slice A0 l0.length c0, .slice A1 l1.length c1, .slice A2 l2.length c2]) (t := 103) ?hr ?_; (case hd => rfl); (case hg => rfl); (case hr => first | (go_simp; done) | (go_simp; rfl)); intro ga hg w2 hbox hb; have HJ0 := Aside0.mk (show DfS w ga #[.slice A0 l0.length c0, .slice A1 l1.length c1, .slice A2 l2.length c2] [] [] (.slice none 0 0) (.slice none 0 0) w2 from ⟨hbox, Kd.N_nil _ _ _ _ _, Kd.N_nil _ _ _ _ _, hb⟩); clear hb hbox hg)
 go_loopg [3, 4, 5, 6] (l1.length + 1) (fun m v3 v4 v5 v6 wr => ∃ (i : Nat) (out : List S95) (adds : List S26) (cuts : Int), v5 = .int .i64 cuts ∧ v6 = .int .i64 (i : Int) ∧ Aside0 (m + i = l1.length + 1) ∧ Aside0 (DfS w ga #[.slice A0 l0.length c0, .slice A1 l1.length c1, .slice A2 l2.length c2] out adds v3 v4 wr) ∧ Aside0 (dofL k (l0.drop i) (l1.drop i) (l2.drop i) out adds cuts = some r))
 case atStart => exact ⟨0, [], [], 0, rfl, rfl, ⟨rfl⟩, HJ0, HZ⟩
 case round =>
  clear HJ0 HZ
  obtain ⟨i, out, adds, cuts, rfl, rfl, HI, HD, HL⟩ := hrel
  cases gk with
  | zero =>
   exact absurd HL.out (by rw [List.drop_eq_nil_of_le (by have := HI.out; have := HL0.out; omega)]; simp [dofL])
  | succ gl =>
  have hi : i ≤ l1.length := by have := HI.out; omega
  have hi0 : i < l0.length := by have := HL0.out; omega
  have hL := HL.out
  rw [drop_L5 l0 i hi0] at hL
  have g1 : decide ((i : Int) ≤ (l1.length : Int)) = true := decide_eq_true (by omega)
  have g1' : decide (i ≤ l1.length) = true := decide_eq_true hi
  have q0 : (i : Int) < (l0.length : Int) := by omega
  obtain ⟨ad0, B0, m0, e0, hx0, hm0, hC0⟩ := at_L5 HR0.out (i : Int) (by omega) q0
  cases e0
  replace hx0 := (HD.out.bel.cell (World.block_lt_of_cell? w _ hx0)).trans hx0
  simp only [Int.toNat_natCast] at hx0
  obtain ⟨a, ha⟩ : ∃ a, a = rd_L5 l0 (i : Int) := ⟨_, rfl⟩
  rw [← ha] at hx0 hm0 hC0 hL
  have HFA := Aside0.mk (Kd.F_step (Kd.C_F k26_heap hC0) (fun k hk _ => HD.out.bel.block k hk))
  have c0 : wr.cell? ⟨ga, 0, none⟩ = some (.slice (some ad0) l0.length c0) := (blk_cell HD.out.bk 0).trans rfl
  have c1' : wr.cell? ⟨ga, 1, none⟩ = some (.slice A1 l1.length c1) := (blk_cell HD.out.bk 1).trans rfl
  have hbig : ¬ (1099511627776 < out.length ∨ 1099511627776 < adds.length + a.length) := by
   intro hb
   by_cases hlt : i < l1.length
   ·rw [drop_B l1 i hlt, drop_L3 l2 i (by have := HL2.out; omega)] at hL
    simp only [dofL] at hL
    rw [if_pos hb] at hL
    cases hL
   ·rw [List.drop_eq_nil_of_le (show l1.length ≤ i by omega), List.drop_eq_nil_of_le (show l2.length ≤ i by have := HL2.out; omega)] at hL
    simp only [dofL] at hL
    rw [if_pos hb] at hL
    cases hL
  have HBG := Aside0.mk hbig
  obtain ⟨A4, n4, hu4⟩ := Kd.N_slice HD.out.radd
  subst hu4
  have HLI := Aside0.mk hL
  clear hbig hL HL ha hm0 hC0 hi0
  go_upto_region 8 with (at_builtin; refine Kd.N_append_rows k26 (w0 := w) w.heap.size rfl (.tmp 15) (.tmp 20) 22 26 (.agg #[(.int .i64 0), (.int .i64 0), (.slice none 0 0)]) 40 rfl Try.underlying22 info26 rfl (by decide) (by decide) _ adds a _ _ _ (fun k => some k ≠ u3.ownBlock) (fun k => k < w.heap.size) rfl rfl HD.out.radd HFA.out (fun k hk => HD.out.far k hk) (fun k hk => (HD.out.fresh k hk).1) HD.out.bel HD.out.bel.size (by have := HBG.out; omega) ?_; intro v1 w3 hR hB hg hat; have HD3 := Aside0.mk (HD.out.appu hR hB hg hat); clear hR hB hg hat)
  obtain ⟨al, hal⟩ : ∃ l : List S26, l = adds ++ a := ⟨_, rfl⟩
  rw [← hal] at HD3
  have HAL := Aside0.mk hal
  clear hal c0 c1' hx0 HFA
  obtain ⟨A5, n5, hv1⟩ := Kd.N_slice HD3.out.radd
  subst hv1
  clear HD
  obtain ⟨A3, n3, hu3⟩ := Kd.N_slice HD3.out.row
  subst hu3
  obtain ⟨cc, hcc⟩ : ∃ c : Bool, c = (decide (i < l1.length) && rdOf false l1 (i : Int)) := ⟨_, rfl⟩
  have HCC := Aside0.mk hcc
  clear hcc
  go_cut [33] (fun v33 wx => v33 = .bool cc ∧ wx = w3)
  case first =>
   have d1 : w3.cell? ⟨ga, 1, none⟩ = some (.slice A1 l1.length c1) := (blk_cell HD3.out.bk 1).trans rfl
   by_cases hlt : i < l1.length
   ·have g2 : decide ((i : Int) < (l1.length : Int)) = true := decide_eq_true (by omega)
    have g2' : decide (i < l1.length) = true := decide_eq_true hlt
    have q1 : (i : Int) < (l1.length : Int) := by omega
    obtain ⟨ad1, e1, hx1⟩ := Kd.at_bool HR1.out (i : Int) (by omega) q1
    cases e1
    replace hx1 := (HD3.out.bel.cell (World.block_lt_of_cell? w _ hx1)).trans hx1
    simp only [Int.toNat_natCast] at hx1
    have hcv := HCC.out
    rw [g2', Bool.true_and] at hcv
    have HCV := Aside0.mk hcv
    clear hcv hlt
    go_wp2
    go_meet
    case rel => exact ⟨by rw [HCV.out], rfl⟩
   ·have g2 : decide ((i : Int) < (l1.length : Int)) = false := decide_eq_false (by omega)
    have g2' : decide (i < l1.length) = false := decide_eq_false hlt
    have hcv := HCC.out
    rw [g2', Bool.false_and] at hcv
    have HCV := Aside0.mk hcv
    clear hcv hlt
    go_wp2
    go_meet
    case rel => exact ⟨by rw [HCV.out], rfl⟩
  case rest =>
  obtain ⟨rfl, rfl⟩ := hcut
  cases cc with
  | true =>
   have hlt : i < l1.length := by
    have := HCC.out
    simp only [Bool.true_eq, Bool.and_eq_true, decide_eq_true_eq] at this
    exact this.1
   have hL := HLI.out
   have hcv : rdOf false l1 (i : Int) = true := by
    have := HCC.out
    simp only [Bool.true_eq, Bool.and_eq_true, decide_eq_true_eq] at this
    exact this.2
   rw [drop_B l1 i hlt, drop_L3 l2 i (by have := HL2.out; omega)] at hL
   simp only [dofL] at hL
   rw [if_neg HBG.out, if_pos hcv, ← HAL.out] at hL
   have HL := Aside0.mk hL
   have wk : wrap64 ((i : Int) + 1) = (i : Int) + 1 := by have := HLN.out; unfold wrap64; omega
   have HIG := Aside0.mk (show gl + (i + 1) = l1.length + 1 by have := HI.out; omega)
   clear hL hcv hlt hi
   go_wp2
   go_roundg gl
   case measure => omega
   case rel => exact ⟨i + 1, out, al, wrap64 (cuts + 1), rfl, by simp [wk], HIG, HD3, HL⟩
  | false =>
   obtain ⟨ta, hta⟩ : ∃ t : Bool, decide (0 < (al.length : Int)) = t := ⟨_, rfl⟩
   have hta2 : decide (0 < al.length) = ta := by rw [← hta]; exact decide_eq_decide.mpr (by omega)
   have HOL := Aside0.mk (show out.length ≤ 1099511627776 by have := HBG.out; omega)
   go_upto_if 38 with (fail)
   go_cut [3] (fun v3 wx => Aside0 (DfO w ga #[.slice (some ad0) l0.length c0, .slice A1 l1.length c1, .slice A2 l2.length c2] (addD out al) v3 wx))
   case first =>
    cases ta with
    | false =>
     have hadd := of_decide_eq_false hta2
     have e : addD out al = out := if_neg hadd
     go_wp2
     go_meet
     case rel => exact ⟨by rw [e]; exact HD3.out.weak⟩
    | true =>
     have hadd := of_decide_eq_true hta2
     have e : addD out al = out ++ [⟨1, 0, [], al⟩] := if_pos hadd
     have HE := Aside0.mk e
     clear hadd e
     go_wp2_with (at_builtin; refine Kd.N_append k95 (w0 := w) w.heap.size rfl (.tmp 39) (.tmp 42) 28 95 (.agg #[.int .i64 0, .int .i64 0, .slice none 0 0, .slice none 0 0]) 64 rfl Try.underlying28 info95 rfl (by decide) (by decide) _ out ⟨1, 0, [], al⟩ _ (fun _ => True) (fun k => some k ≠ (Value.slice A3 out.length n3).ownBlock) rfl (by simp [Act.eval]) (k95_mkF _ _ ⟨1, 0, [], al⟩ (Nat.le_refl 0) (Kd.F_nil _ _ _) (Kd.N_reads' HD3.out.radd).2.1 (Kd.N_F HD3.out.radd)) (fun _ hk => ⟨trivial, hk⟩) (fun _ _ => trivial) HD3.out.weak.row HD3.out.bel HD3.out.bel.size (by have := HOL.out; omega) ?_; intro v1 w4 hR hB hg hat; have HW := Aside0.mk (HD3.out.weak.app hR hB hg); clear hR hB hg hat)
     go_meet
     case rel => exact ⟨by rw [HE.out]; exact HW.out⟩
   case rest =>
   clear hta hta2
   obtain ⟨l2', hl2'⟩ : ∃ l : List S95, l = addD out al := ⟨_, rfl⟩
   have HLEN := Aside0.mk (show l2'.length ≤ out.length + 1 by rw [hl2']; unfold addD; split <;> simp)
   rw [← hl2'] at hcut
   have HL2' := Aside0.mk hl2'
   clear hl2'
   obtain ⟨A6, n6, hv6⟩ := Kd.N_slice hcut.out.row
   subst hv6
   have HO2 := hcut
   clear hcut HD3
   obtain ⟨tb, htb⟩ : ∃ t : Bool, decide (0 < cuts) = t := ⟨_, rfl⟩
   go_upto_if 45 with (fail)
   go_cut [3] (fun v3 wx => Aside0 (DfO w ga #[.slice (some ad0) l0.length c0, .slice A1 l1.length c1, .slice A2 l2.length c2] (cutD l2' cuts) v3 wx))
   case first =>
    cases tb with
    | false =>
     have hadd := of_decide_eq_false htb
     have e : cutD l2' cuts = l2' := if_neg hadd
     go_wp2
     go_meet
     case rel => exact ⟨by rw [e]; exact HO2.out⟩
    | true =>
     have hadd := of_decide_eq_true htb
     have e : cutD l2' cuts = l2' ++ [⟨2, cuts, [], []⟩] := if_pos hadd
     have HE := Aside0.mk e
     clear hadd e
     go_wp2_with (at_builtin; refine Kd.N_append k95 (w0 := w) w.heap.size rfl (.tmp 46) (.tmp 49) 28 95 (.agg #[.int .i64 0, .int .i64 0, .slice none 0 0, .slice none 0 0]) 64 rfl Try.underlying28 info95 rfl (by decide) (by decide) _ l2' ⟨2, cuts, [], []⟩ _ (fun _ => True) (fun _ => False) rfl (by simp [Act.eval]) (k95_mkF _ _ ⟨2, cuts, [], []⟩ (Nat.le_refl 0) (Kd.F_nil _ _ _) (Nat.le_refl 0) (Kd.F_nil _ _ _)) (fun _ hk => hk.elim) (fun _ _ => trivial) HO2.out.row HO2.out.bel HO2.out.bel.size (by have := HOL.out; have := HLEN.out; omega) ?_; intro v1 w4 hR hB hg hat; have HW := Aside0.mk (HO2.out.app hR hB hg); clear hR hB hg hat)
     go_meet
     case rel => exact ⟨by rw [HE.out]; exact HW.out⟩
   case rest =>
   clear htb
   obtain ⟨o, ho⟩ : ∃ l : List S95, l = cutD l2' cuts := ⟨_, rfl⟩
   have HOO := Aside0.mk (show flushD out al cuts = o by rw [ho, HL2'.out]; rfl)
   have HLO := Aside0.mk (show o.length ≤ 1099511627778 by have h1 := HOL.out; have h2 := HLEN.out; rw [ho]; unfold cutD; split <;> simp <;> omega)
   rw [← ho] at hcut
   clear ho HO2 HLEN HL2'
   obtain ⟨A7, n7, hv7⟩ := Kd.N_slice hcut.out.row
   subst hv7
   have HO := hcut
   clear hcut
   have e1 : wc.cell? ⟨ga, 1, none⟩ = some (.slice A1 l1.length c1) := (blk_cell HO.out.bk 1).trans rfl
   by_cases hlt : i < l1.length
   rotate_left
   ·have hie : i = l1.length := by omega
    have g3 : ((i : Int) == (l1.length : Int)) = true := beq_iff_eq.mpr (by omega)
    have g3' : (i == l1.length) = true := beq_iff_eq.mpr hie
    have hL := HLI.out
    rw [List.drop_eq_nil_of_le (show l1.length ≤ i by omega), List.drop_eq_nil_of_le (show l2.length ≤ i by have := HL2.out; omega)] at hL
    simp only [dofL] at hL
    rw [if_neg HBG.out, ← HAL.out, HOO.out] at hL
    injection hL with hL
    have HLR := Aside0.mk hL
    clear hL hlt hi hie
    go_wp2
    first | go_ret | go_ret2
    exact ⟨_, rfl, by rw [← HLR.out]; exact HO.out.row, HO.out.bel⟩
   have g3 : ((i : Int) == (l1.length : Int)) = false := beq_eq_false_iff_ne.mpr (by omega)
   have g3' : (i == l1.length) = false := beq_eq_false_iff_ne.mpr (by omega)
   have hL := HLI.out
   have hcv : rdOf false l1 (i : Int) = false := by
    have h1 := HCC.out
    rw [decide_eq_true hlt, Bool.true_and] at h1
    exact h1.symm
   rw [drop_B l1 i hlt, drop_L3 l2 i (by have := HL2.out; omega)] at hL
   simp only [dofL] at hL
   rw [if_neg HBG.out, hcv, if_neg (by decide), ← HAL.out, HOO.out] at hL
   obtain ⟨b, hb, hL⟩ := Option.bind_eq_some_iff.1 hL
   have q2 : (i : Int) < (l2.length : Int) := by have := HL2.out; omega
   obtain ⟨ad2, B2, m2, e2, hx2, hm2, hC2⟩ := at_L3 HR2.out (i : Int) (by omega) q2
   cases e2
   have HX2 := Aside0.mk hx2
   obtain ⟨t, ht⟩ : ∃ a, a = rd_L3 l2 (i : Int) := ⟨_, rfl⟩
   rw [← ht] at HX2 hm2 hC2 hL hb
   have HC2 := Aside0.mk hC2
   have HM2 := Aside0.mk hm2
   have HB := Aside0.mk hb
   have HL := Aside0.mk hL
   have HIG := Aside0.mk (show gl + (i + 1) = l1.length + 1 by have := HI.out; omega)
   have wk : wrap64 ((i : Int) + 1) = (i : Int) + 1 := by have := HLN.out; unfold wrap64; omega
   have hlen := HLO.out
   clear hx2 ht hm2 hC2 hb hL hcv hlt hi HLI HCC
   go_upto_region 17 with (fail)
   go_cut [81] (fun v81 wx => v81 = .bool b ∧ Aside0 (DfO w ga #[.slice (some ad0) l0.length c0, .slice A1 l1.length c1, .slice (some ad2) l2.length c2] o (.slice A7 o.length n7) wx))
   case first =>
    have hb := HB.out
    by_cases hz : 0 < o.length
    ·have p0 : 0 ≤ (o.length : Int) - 1 := by omega
     have p0b : decide (1 ≤ (o.length : Int)) = true := decide_eq_true (by omega)
     have p0c : ((1 : Int) ≤ (o.length : Int)) = True := eq_true (by omega)
     have r0 : (o.length : Int) - 1 < (o.length : Int) := by omega
     obtain ⟨go, co, eo, gb, gl2, cells, hblk⟩ := Kd.N_form HO.out.row hz
     injection eo with ea en ec
     subst ea
     subst ec
     clear en
     obtain ⟨ce, hcl, hM, hcc, hfr⟩ := Kd.N_elem HO.out.row z95 ((o.length : Int) - 1) p0 r0
     obtain ⟨D2, k2, D3, k3, rfl, hm2, hF2, hm3, hF3⟩ := k95_openF hM
     have hix : ∀ j, (((o.length : Int) - 1).toNat * k95.sz + j) = (o.length - 1) * 4 + j := fun j => by show (((o.length : Int) - 1).toNat * 4 + j) = _; omega
     have hy0 : wc.cell? ⟨go, (o.length - 1) * 4, none⟩ = some (.int .i64 (rd_T95 o ((o.length : Int) - 1)).f0) := by
      have := hcc 0 _ rfl
      rwa [hix] at this
     have hy2 : wc.cell? ⟨go, (o.length - 1) * 4 + 2, none⟩ = some (.slice D2 (rd_T95 o ((o.length : Int) - 1)).f2.length k2) := by
      have := hcc 2 _ rfl
      rwa [hix] at this
     rw [dofB, if_pos hz] at hb
     by_cases hkp : (rd_T95 o ((o.length : Int) - 1)).f0 = 0
     ·rw [if_pos hkp] at hb
      have c4 : ((rd_T95 o ((o.length : Int) - 1)).f0 == 0) = true := beq_iff_eq.mpr hkp
      have HB' := Aside0.mk hb
      have HK2 := Aside0.mk (show (rd_T95 o ((o.length : Int) - 1)).f2.length ≤ k2 from hm2)
      have HF2 := Aside0.mk (show Kd.C k91 wc D2 (rd_T95 o ((o.length : Int) - 1)).f2.length (rd_T95 o ((o.length : Int) - 1)).f2 from Kd.F_now hF2)
      have HX2' := Aside0.mk ((HO.out.bel.cell (World.block_lt_of_cell? w _ HX2.out)).trans HX2.out)
      have hx2 := HX2'.out
      simp only [Int.toNat_natCast] at hx2
      clear hb hm2 hF2 hm3 hF3 hM hcc hcl gb hkp gl2 hblk hfr hix
      refine start_ (n := 23) (S := fun w' => w'.cell? ⟨go, (o.length - 1) * 4, none⟩ = some (.int .i64 (rd_T95 o ((o.length : Int) - 1)).f0) ∧ w'.cell? ⟨go, (o.length - 1) * 4 + 2, none⟩ = some (.slice D2 (rd_T95 o ((o.length : Int) - 1)).f2.length k2) ∧ w'.cell? ⟨ga, 2, none⟩ = some (.slice (some ad2) l2.length c2) ∧ w'.cell? (ad2.add i) = some (.slice B2 t.length m2)) (ds := [21]) #[false, false, false, false, false, false, false, false, false, false, false, false, false, false, false, false, false, false, false, false, false, false, false] (by kernel_rfl) rfl rfl ⟨hy0, hy2, ((blk_cell HO.out.bk 2).trans rfl), hx2⟩ (fun hHeld => ?_)
      refine pure_ (i := 0) (N := some 59) (v := ?_) (a' := ?_) (bm 1 23) rfl rfl (by kernel_rfl) (fun _ _ _ h => h) (Or.inl ⟨by rfl, ?_⟩) ?_ ?_
      rotate_left
      ·intro w'
       go_simp
       with_reducible rfl
      rotate_left
      ·simp only [Act.put, sA, sB, sC, i64_w, i32_w]
       rfl
      refine pure_ (i := 1) (N := some 60) (v := ?_) (a' := ?_) (bm 3 23) rfl rfl (by kernel_rfl) (fun _ _ _ h => h) (Or.inl ⟨by rfl, ?_⟩) ?_ ?_
      rotate_left
      ·intro w'
       go_simp
       with_reducible rfl
      rotate_left
      ·simp only [Act.put, sA, sB, sC, i64_w, i32_w]
       rfl
      refine pure_ (i := 2) (N := some 61) (v := ?_) (a' := ?_) (bm 7 23) rfl rfl (by kernel_rfl) (fun _ _ _ h => h) (Or.inl ⟨by rfl, ?_⟩) ?_ ?_
      rotate_left
      ·intro w'
       go_simp
       with_reducible rfl
      rotate_left
      ·simp only [Act.put, sA, sB, sC, i64_w, i32_w]
       rfl
      refine pure_ (i := 3) (N := some 62) (v := ?_) (a' := ?_) (bm 15 23) rfl rfl (by kernel_rfl) (fun _ _ _ h => h) (Or.inl ⟨by rfl, ?_⟩) ?_ ?_
      rotate_left
      ·intro w'
       go_simp
       with_reducible rfl
      rotate_left
      ·simp only [Act.put, sA, sB, sC, i64_w, i32_w]
       rfl
      refine pure_ (i := 4) (N := some 63) (v := ?_) (a' := ?_) (bm 31 23) rfl rfl (by kernel_rfl) (fun _ _ _ h => h) (Or.inl ⟨by rfl, ?_⟩) ?_ ?_
      rotate_left
      ·intro w'
       go_simp
       with_reducible rfl
      rotate_left
      ·simp only [Act.put, sA, sB, sC, i64_w, i32_w]
       rfl
      refine pure_ (i := 5) (N := some 64) (v := ?_) (a' := ?_) (bm 63 23) rfl rfl (by kernel_rfl) (fun _ _ _ h => h) (Or.inl ⟨by rfl, ?_⟩) ?_ ?_
      rotate_left
      ·intro w'
       go_simp
       with_reducible rfl
      rotate_left
      ·simp only [Act.put, sA, sB, sC, i64_w, i32_w]
       rfl
      refine pure_ (i := 6) (N := some 65) (v := ?_) (a' := ?_) (bm 127 23) rfl rfl (by kernel_rfl) (fun _ _ _ h => h) (Or.inl ⟨by rfl, ?_⟩) ?_ ?_
      rotate_left
      ·intro w'
       go_simp
       with_reducible rfl
      rotate_left
      ·simp only [Act.put, sA, sB, sC, i64_w, i32_w]
       rfl
      refine take_ (i := 7) (N := some 66) (v := ?_) (a' := ?_) (bm 255 23) rfl rfl (by kernel_rfl) (fun _ _ _ h => h) (Or.inl ⟨by rfl, ?_⟩) hHeld ?_ ?_
      rotate_left
      ·rintro w' ⟨s0, s1, s2, s3⟩
       go_simp
       with_reducible rfl
      rotate_left
      ·simp only [Act.put, sA, sB, sC, i64_w, i32_w]
       rfl
      refine pure_ (i := 8) (N := some 67) (v := ?_) (a' := ?_) (bm 511 23) rfl rfl (by kernel_rfl) (fun _ _ _ h => h) (Or.inl ⟨by rfl, ?_⟩) ?_ ?_
      rotate_left
      ·intro w'
       go_simp
       with_reducible rfl
      rotate_left
      ·simp only [Act.put, sA, sB, sC, i64_w, i32_w]
       rfl
      refine pure_ (i := 9) (N := some 68) (v := ?_) (a' := ?_) (bm 1023 23) rfl rfl (by kernel_rfl) (fun _ _ _ h => h) (Or.inl ⟨by rfl, ?_⟩) ?_ ?_
      rotate_left
      ·intro w'
       go_simp
       with_reducible rfl
      rotate_left
      ·simp only [Act.put, sA, sB, sC, i64_w, i32_w]
       rfl
      refine pure_ (i := 10) (N := some 69) (v := ?_) (a' := ?_) (bm 2047 23) rfl rfl (by kernel_rfl) (fun _ _ _ h => h) (Or.inl ⟨by rfl, ?_⟩) ?_ ?_
      rotate_left
      ·intro w'
       go_simp
       with_reducible rfl
      rotate_left
      ·simp only [Act.put, sA, sB, sC, i64_w, i32_w]
       rfl
      refine pure_ (i := 11) (N := some 70) (v := ?_) (a' := ?_) (bm 4095 23) rfl rfl (by kernel_rfl) (fun _ _ _ h => h) (Or.inl ⟨by rfl, ?_⟩) ?_ ?_
      rotate_left
      ·intro w'
       go_simp
       with_reducible rfl
      rotate_left
      ·simp only [Act.put, sA, sB, sC, i64_w, i32_w]
       rfl
      refine pure_ (i := 12) (N := some 71) (v := ?_) (a' := ?_) (bm 8191 23) rfl rfl (by kernel_rfl) (fun _ _ _ h => h) (Or.inl ⟨by rfl, ?_⟩) ?_ ?_
      rotate_left
      ·intro w'
       go_simp
       with_reducible rfl
      rotate_left
      ·simp only [Act.put, sA, sB, sC, i64_w, i32_w]
       rfl
      refine pure_ (i := 13) (N := some 72) (v := ?_) (a' := ?_) (bm 16383 23) rfl rfl (by kernel_rfl) (fun _ _ _ h => h) (Or.inl ⟨by rfl, ?_⟩) ?_ ?_
      rotate_left
      ·intro w'
       go_simp
       with_reducible rfl
      rotate_left
      ·simp only [Act.put, sA, sB, sC, i64_w, i32_w]
       rfl
      refine pure_ (i := 14) (N := some 73) (v := ?_) (a' := ?_) (bm 32767 23) rfl rfl (by kernel_rfl) (fun _ _ _ h => h) (Or.inl ⟨by rfl, ?_⟩) ?_ ?_
      rotate_left
      ·intro w'
       go_simp
       with_reducible rfl
      rotate_left
      ·simp only [Act.put, sA, sB, sC, i64_w, i32_w]
       rfl
      refine pure_ (i := 16) (N := some 75) (v := ?_) (a' := ?_) (bm 98303 23) rfl rfl (by kernel_rfl) (fun _ _ _ h => h) (Or.inl ⟨by rfl, ?_⟩) ?_ ?_
      rotate_left
      ·intro w'
       go_simp
       with_reducible rfl
      rotate_left
      ·simp only [Act.put, sA, sB, sC, i64_w, i32_w]
       rfl
      refine pure_ (i := 18) (N := some 77) (v := ?_) (a' := ?_) (bm 360447 23) rfl rfl (by kernel_rfl) (fun _ _ _ h => h) (Or.inl ⟨by rfl, ?_⟩) ?_ ?_
      rotate_left
      ·intro w'
       go_simp
       with_reducible rfl
      rotate_left
      ·simp only [Act.put, sA, sB, sC, i64_w, i32_w]
       rfl
      refine take_ (i := 15) (N := some 74) (v := ?_) (a' := ?_) (bm 393215 23) rfl rfl (by kernel_rfl) (fun _ _ _ h => h) (Or.inl ⟨by rfl, ?_⟩) hHeld ?_ ?_
      rotate_left
      ·rintro w' ⟨s0, s1, s2, s3⟩
       go_simp
       with_reducible rfl
      rotate_left
      ·simp only [Act.put, sA, sB, sC, i64_w, i32_w]
       rfl
      refine take_ (i := 17) (N := some 76) (v := ?_) (a' := ?_) (bm 524287 23) rfl rfl (by kernel_rfl) (fun _ _ _ h => h) (Or.inl ⟨by rfl, ?_⟩) hHeld ?_ ?_
      rotate_left
      ·rintro w' ⟨s0, s1, s2, s3⟩
       go_simp
       with_reducible rfl
      rotate_left
      ·simp only [Act.put, sA, sB, sC, i64_w, i32_w]
       rfl
      refine pure_ (i := 19) (N := some 78) (v := ?_) (a' := ?_) (bm 1048575 23) rfl rfl (by kernel_rfl) (fun _ _ _ h => h) (Or.inl ⟨by rfl, ?_⟩) ?_ ?_
      rotate_left
      ·intro w'
       go_simp
       with_reducible rfl
      rotate_left
      ·simp only [Act.put, sA, sB, sC, i64_w, i32_w]
       rfl
      refine take_ (i := 20) (N := some 79) (v := ?_) (a' := ?_) (bm 2097151 23) rfl rfl (by kernel_rfl) (fun _ _ _ h => h) (Or.inl ⟨by rfl, ?_⟩) hHeld ?_ ?_
      rotate_left
      ·rintro w' ⟨s0, s1, s2, s3⟩
       go_simp
       with_reducible rfl
      rotate_left
      ·simp only [Act.put, sA, sB, sC, i64_w, i32_w]
       rfl
      refine last_ (i := 21) (N := some 80) (bm 4194303 23) rfl rfl (by kernel_rfl) (by decide) (fun K hK => ?_)
      refine goes_ Try.func65 (by kernel_rfl) rfl #[.slice D2 (rd_T95 o ((o.length : Int) - 1)).f2.length k2, .slice B2 t.length m2] (by rfl) rfl rfl (by simp only [List.map_toArray, List.map_cons, List.map_nil]; rfl) ?_
      with_reducible refine (chanceryref1_SameAttrs.calls k D2 k2 (rd_T95 o ((o.length : Int) - 1)).f2 B2 m2 t b _ (Kd.C_drew HF2.out) HK2.out (Kd.C_below HC2.out HO.out.drew.bel) HM2.out HB'.out).mono ?_
      rintro e w9 ⟨rfl, hb9⟩
      refine ⟨_, rfl, ?_⟩
      obtain ⟨nd, rfl⟩ := hb9
      have HO9 := Aside0.mk (HO.out.drew.drewN nd)
      refine hK.out _ _ ?_
      clear hK K
      refine norm_ (a' := ?_) ?_ ?_
      rotate_left
      ·show Act.put _ (some 80) _ = _
       simp only [Act.put, sA, sB, sC, i64_w, i32_w]
       rfl
      refine pure_ (i := 22) (N := some 81) (v := ?_) (a' := ?_) (bm 8388607 23) rfl rfl (by kernel_rfl) (fun _ _ _ h => h) (Or.inl ⟨by rfl, ?_⟩) ?_ ?_
      rotate_left
      ·intro w'
       go_simp
       with_reducible rfl
      rotate_left
      ·simp only [Act.put, sA, sB, sC, i64_w, i32_w]
       rfl
      refine done_ (by kernel_rfl) ?_
      go_wp2
      go_meet
      case rel => exact ⟨by cases b <;> rfl, HO9⟩
     ·rw [if_neg hkp] at hb
      obtain rfl := Option.some.inj hb
      have c4 : ((rd_T95 o ((o.length : Int) - 1)).f0 == 0) = false := beq_eq_false_iff_ne.mpr hkp
      clear hb hm2 hF2 hm3 hF3 hM hcc hcl gb hkp gl2 hblk hfr hix
      refine start_ (n := 23) (S := fun w' => w'.cell? ⟨go, (o.length - 1) * 4, none⟩ = some (.int .i64 (rd_T95 o ((o.length : Int) - 1)).f0)) (ds := []) #[false, false, false, false, false, false, false, false, false, false, false, false, false, false, false, false, false, false, false, false, false, false, false] (by kernel_rfl) rfl rfl (hy0) (fun hHeld => ?_)
      refine pure_ (i := 0) (N := some 59) (v := ?_) (a' := ?_) (bm 1 23) rfl rfl (by kernel_rfl) (fun _ _ _ h => h) (Or.inl ⟨by rfl, ?_⟩) ?_ ?_
      rotate_left
      ·intro w'
       go_simp
       with_reducible rfl
      rotate_left
      ·simp only [Act.put, sA, sB, sC, i64_w, i32_w]
       rfl
      refine pure_ (i := 1) (N := some 60) (v := ?_) (a' := ?_) (bm 3 23) rfl rfl (by kernel_rfl) (fun _ _ _ h => h) (Or.inl ⟨by rfl, ?_⟩) ?_ ?_
      rotate_left
      ·intro w'
       go_simp
       with_reducible rfl
      rotate_left
      ·simp only [Act.put, sA, sB, sC, i64_w, i32_w]
       rfl
      refine pure_ (i := 2) (N := some 61) (v := ?_) (a' := ?_) (bm 7 23) rfl rfl (by kernel_rfl) (fun _ _ _ h => h) (Or.inl ⟨by rfl, ?_⟩) ?_ ?_
      rotate_left
      ·intro w'
       go_simp
       with_reducible rfl
      rotate_left
      ·simp only [Act.put, sA, sB, sC, i64_w, i32_w]
       rfl
      refine pure_ (i := 3) (N := some 62) (v := ?_) (a' := ?_) (bm 15 23) rfl rfl (by kernel_rfl) (fun _ _ _ h => h) (Or.inl ⟨by rfl, ?_⟩) ?_ ?_
      rotate_left
      ·intro w'
       go_simp
       with_reducible rfl
      rotate_left
      ·simp only [Act.put, sA, sB, sC, i64_w, i32_w]
       rfl
      refine pure_ (i := 4) (N := some 63) (v := ?_) (a' := ?_) (bm 31 23) rfl rfl (by kernel_rfl) (fun _ _ _ h => h) (Or.inl ⟨by rfl, ?_⟩) ?_ ?_
      rotate_left
      ·intro w'
       go_simp
       with_reducible rfl
      rotate_left
      ·simp only [Act.put, sA, sB, sC, i64_w, i32_w]
       rfl
      refine pure_ (i := 5) (N := some 64) (v := ?_) (a' := ?_) (bm 63 23) rfl rfl (by kernel_rfl) (fun _ _ _ h => h) (Or.inl ⟨by rfl, ?_⟩) ?_ ?_
      rotate_left
      ·intro w'
       go_simp
       with_reducible rfl
      rotate_left
      ·simp only [Act.put, sA, sB, sC, i64_w, i32_w]
       rfl
      refine pure_ (i := 6) (N := some 65) (v := ?_) (a' := ?_) (bm 127 23) rfl rfl (by kernel_rfl) (fun _ _ _ h => h) (Or.inl ⟨by rfl, ?_⟩) ?_ ?_
      rotate_left
      ·intro w'
       go_simp
       with_reducible rfl
      rotate_left
      ·simp only [Act.put, sA, sB, sC, i64_w, i32_w]
       rfl
      refine take_ (i := 7) (N := some 66) (v := ?_) (a' := ?_) (bm 255 23) rfl rfl (by kernel_rfl) (fun _ _ _ h => h) (Or.inl ⟨by rfl, ?_⟩) hHeld ?_ ?_
      rotate_left
      ·intro w' s0
       go_simp
       with_reducible rfl
      rotate_left
      ·simp only [Act.put, sA, sB, sC, i64_w, i32_w]
       rfl
      refine pure_ (i := 8) (N := some 67) (v := ?_) (a' := ?_) (bm 511 23) rfl rfl (by kernel_rfl) (fun _ _ _ h => h) (Or.inl ⟨by rfl, ?_⟩) ?_ ?_
      rotate_left
      ·intro w'
       go_simp
       with_reducible rfl
      rotate_left
      ·simp only [Act.put, sA, sB, sC, i64_w, i32_w]
       rfl
      refine pure_ (i := 9) (N := some 68) (v := ?_) (a' := ?_) (bm 1023 23) rfl rfl (by kernel_rfl) (fun _ _ _ h => h) (Or.inl ⟨by rfl, ?_⟩) ?_ ?_
      rotate_left
      ·intro w'
       go_simp
       with_reducible rfl
      rotate_left
      ·simp only [Act.put, sA, sB, sC, i64_w, i32_w]
       rfl
      refine pure_ (i := 10) (N := some 69) (v := ?_) (a' := ?_) (bm 2047 23) rfl rfl (by kernel_rfl) (fun _ _ _ h => h) (Or.inl ⟨by rfl, ?_⟩) ?_ ?_
      rotate_left
      ·intro w'
       go_simp
       with_reducible rfl
      rotate_left
      ·simp only [Act.put, sA, sB, sC, i64_w, i32_w]
       rfl
      refine pure_ (i := 11) (N := some 70) (v := undef) (a' := ?_) (bm 4095 23) rfl rfl (by kernel_rfl) (fun _ _ _ h => h) (Or.inr ⟨by rfl, rfl⟩) ?_ ?_
      rotate_left
      ·simp only [Act.put, sA, sB, sC, i64_w, i32_w]
       rfl
      refine pure_ (i := 12) (N := some 71) (v := undef) (a' := ?_) (bm 8191 23) rfl rfl (by kernel_rfl) (fun _ _ _ h => h) (Or.inr ⟨by rfl, rfl⟩) ?_ ?_
      rotate_left
      ·simp only [Act.put, sA, sB, sC, i64_w, i32_w]
       rfl
      refine pure_ (i := 13) (N := some 72) (v := undef) (a' := ?_) (bm 16383 23) rfl rfl (by kernel_rfl) (fun _ _ _ h => h) (Or.inr ⟨by rfl, rfl⟩) ?_ ?_
      rotate_left
      ·simp only [Act.put, sA, sB, sC, i64_w, i32_w]
       rfl
      refine pure_ (i := 14) (N := some 73) (v := undef) (a' := ?_) (bm 32767 23) rfl rfl (by kernel_rfl) (fun _ _ _ h => h) (Or.inr ⟨by rfl, rfl⟩) ?_ ?_
      rotate_left
      ·simp only [Act.put, sA, sB, sC, i64_w, i32_w]
       rfl
      refine pure_ (i := 15) (N := some 74) (v := undef) (a' := ?_) (bm 65535 23) rfl rfl (by kernel_rfl) (fun _ _ _ h => h) (Or.inr ⟨by rfl, rfl⟩) ?_ ?_
      rotate_left
      ·simp only [Act.put, sA, sB, sC, i64_w, i32_w]
       rfl
      refine pure_ (i := 16) (N := some 75) (v := undef) (a' := ?_) (bm 131071 23) rfl rfl (by kernel_rfl) (fun _ _ _ h => h) (Or.inr ⟨by rfl, rfl⟩) ?_ ?_
      rotate_left
      ·simp only [Act.put, sA, sB, sC, i64_w, i32_w]
       rfl
      refine pure_ (i := 17) (N := some 76) (v := undef) (a' := ?_) (bm 262143 23) rfl rfl (by kernel_rfl) (fun _ _ _ h => h) (Or.inr ⟨by rfl, rfl⟩) ?_ ?_
      rotate_left
      ·simp only [Act.put, sA, sB, sC, i64_w, i32_w]
       rfl
      refine pure_ (i := 18) (N := some 77) (v := undef) (a' := ?_) (bm 524287 23) rfl rfl (by kernel_rfl) (fun _ _ _ h => h) (Or.inr ⟨by rfl, rfl⟩) ?_ ?_
      rotate_left
      ·simp only [Act.put, sA, sB, sC, i64_w, i32_w]
       rfl
      refine pure_ (i := 19) (N := some 78) (v := undef) (a' := ?_) (bm 1048575 23) rfl rfl (by kernel_rfl) (fun _ _ _ h => h) (Or.inr ⟨by rfl, rfl⟩) ?_ ?_
      rotate_left
      ·simp only [Act.put, sA, sB, sC, i64_w, i32_w]
       rfl
      refine pure_ (i := 20) (N := some 79) (v := undef) (a' := ?_) (bm 2097151 23) rfl rfl (by kernel_rfl) (fun _ _ _ h => h) (Or.inr ⟨by rfl, rfl⟩) ?_ ?_
      rotate_left
      ·simp only [Act.put, sA, sB, sC, i64_w, i32_w]
       rfl
      refine pure_ (i := 21) (N := some 80) (v := undef) (a' := ?_) (bm 4194303 23) rfl rfl (by kernel_rfl) (fun _ _ _ h => h) (Or.inr ⟨by rfl, rfl⟩) ?_ ?_
      rotate_left
      ·simp only [Act.put, sA, sB, sC, i64_w, i32_w]
       rfl
      refine pure_ (i := 22) (N := some 81) (v := ?_) (a' := ?_) (bm 8388607 23) rfl rfl (by kernel_rfl) (fun _ _ _ h => h) (Or.inl ⟨by rfl, ?_⟩) ?_ ?_
      rotate_left
      ·intro w'
       go_simp
       with_reducible rfl
      rotate_left
      ·simp only [Act.put, sA, sB, sC, i64_w, i32_w]
       rfl
      refine done_ (by kernel_rfl) ?_
      go_wp2
      go_meet
      case rel => exact ⟨rfl, ⟨HO.out.drew⟩⟩
    ·have hnil : o = [] := List.eq_nil_of_length_eq_zero (by omega)
     subst hnil
     rw [dofB, if_neg (by decide)] at hb
     obtain rfl := Option.some.inj hb
     refine start_ (n := 23) (S := fun w' => True) (ds := []) #[false, false, false, false, false, false, false, false, false, false, false, false, false, false, false, false, false, false, false, false, false, false, false] (by kernel_rfl) rfl rfl trivial (fun hHeld => ?_)
     refine pure_ (i := 0) (N := some 59) (v := ?_) (a' := ?_) (bm 1 23) rfl rfl (by kernel_rfl) (fun _ _ _ h => h) (Or.inl ⟨by rfl, ?_⟩) ?_ ?_
     rotate_left
     ·intro w'
      go_simp
      with_reducible rfl
     rotate_left
     ·simp only [Act.put, sA, sB, sC, i64_w, i32_w]
      rfl
     refine pure_ (i := 1) (N := some 60) (v := ?_) (a' := ?_) (bm 3 23) rfl rfl (by kernel_rfl) (fun _ _ _ h => h) (Or.inl ⟨by rfl, ?_⟩) ?_ ?_
     rotate_left
     ·intro w'
      go_simp
      with_reducible rfl
     rotate_left
     ·simp only [Act.put, sA, sB, sC, i64_w, i32_w]
      rfl
     refine pure_ (i := 2) (N := some 61) (v := ?_) (a' := ?_) (bm 7 23) rfl rfl (by kernel_rfl) (fun _ _ _ h => h) (Or.inl ⟨by rfl, ?_⟩) ?_ ?_
     rotate_left
     ·intro w'
      go_simp
      with_reducible rfl
     rotate_left
     ·simp only [Act.put, sA, sB, sC, i64_w, i32_w]
      rfl
     refine pure_ (i := 3) (N := some 62) (v := undef) (a' := ?_) (bm 15 23) rfl rfl (by kernel_rfl) (fun _ _ _ h => h) (Or.inr ⟨by rfl, rfl⟩) ?_ ?_
     rotate_left
     ·simp only [Act.put, sA, sB, sC, i64_w, i32_w]
      rfl
     refine pure_ (i := 4) (N := some 63) (v := undef) (a' := ?_) (bm 31 23) rfl rfl (by kernel_rfl) (fun _ _ _ h => h) (Or.inr ⟨by rfl, rfl⟩) ?_ ?_
     rotate_left
     ·simp only [Act.put, sA, sB, sC, i64_w, i32_w]
      rfl
     refine pure_ (i := 5) (N := some 64) (v := undef) (a' := ?_) (bm 63 23) rfl rfl (by kernel_rfl) (fun _ _ _ h => h) (Or.inr ⟨by rfl, rfl⟩) ?_ ?_
     rotate_left
     ·simp only [Act.put, sA, sB, sC, i64_w, i32_w]
      rfl
     refine pure_ (i := 6) (N := some 65) (v := undef) (a' := ?_) (bm 127 23) rfl rfl (by kernel_rfl) (fun _ _ _ h => h) (Or.inr ⟨by rfl, rfl⟩) ?_ ?_
     rotate_left
     ·simp only [Act.put, sA, sB, sC, i64_w, i32_w]
      rfl
     refine pure_ (i := 7) (N := some 66) (v := undef) (a' := ?_) (bm 255 23) rfl rfl (by kernel_rfl) (fun _ _ _ h => h) (Or.inr ⟨by rfl, rfl⟩) ?_ ?_
     rotate_left
     ·simp only [Act.put, sA, sB, sC, i64_w, i32_w]
      rfl
     refine pure_ (i := 8) (N := some 67) (v := undef) (a' := ?_) (bm 511 23) rfl rfl (by kernel_rfl) (fun _ _ _ h => h) (Or.inr ⟨by rfl, rfl⟩) ?_ ?_
     rotate_left
     ·simp only [Act.put, sA, sB, sC, i64_w, i32_w]
      rfl
     refine pure_ (i := 9) (N := some 68) (v := ?_) (a' := ?_) (bm 1023 23) rfl rfl (by kernel_rfl) (fun _ _ _ h => h) (Or.inl ⟨by rfl, ?_⟩) ?_ ?_
     rotate_left
     ·intro w'
      go_simp
      with_reducible rfl
     rotate_left
     ·simp only [Act.put, sA, sB, sC, i64_w, i32_w]
      rfl
     refine pure_ (i := 10) (N := some 69) (v := ?_) (a' := ?_) (bm 2047 23) rfl rfl (by kernel_rfl) (fun _ _ _ h => h) (Or.inl ⟨by rfl, ?_⟩) ?_ ?_
     rotate_left
     ·intro w'
      go_simp
      with_reducible rfl
     rotate_left
     ·simp only [Act.put, sA, sB, sC, i64_w, i32_w]
      rfl
     refine pure_ (i := 11) (N := some 70) (v := undef) (a' := ?_) (bm 4095 23) rfl rfl (by kernel_rfl) (fun _ _ _ h => h) (Or.inr ⟨by rfl, rfl⟩) ?_ ?_
     rotate_left
     ·simp only [Act.put, sA, sB, sC, i64_w, i32_w]
      rfl
     refine pure_ (i := 12) (N := some 71) (v := undef) (a' := ?_) (bm 8191 23) rfl rfl (by kernel_rfl) (fun _ _ _ h => h) (Or.inr ⟨by rfl, rfl⟩) ?_ ?_
     rotate_left
     ·simp only [Act.put, sA, sB, sC, i64_w, i32_w]
      rfl
     refine pure_ (i := 13) (N := some 72) (v := undef) (a' := ?_) (bm 16383 23) rfl rfl (by kernel_rfl) (fun _ _ _ h => h) (Or.inr ⟨by rfl, rfl⟩) ?_ ?_
     rotate_left
     ·simp only [Act.put, sA, sB, sC, i64_w, i32_w]
      rfl
     refine pure_ (i := 14) (N := some 73) (v := undef) (a' := ?_) (bm 32767 23) rfl rfl (by kernel_rfl) (fun _ _ _ h => h) (Or.inr ⟨by rfl, rfl⟩) ?_ ?_
     rotate_left
     ·simp only [Act.put, sA, sB, sC, i64_w, i32_w]
      rfl
     refine pure_ (i := 15) (N := some 74) (v := undef) (a' := ?_) (bm 65535 23) rfl rfl (by kernel_rfl) (fun _ _ _ h => h) (Or.inr ⟨by rfl, rfl⟩) ?_ ?_
     rotate_left
     ·simp only [Act.put, sA, sB, sC, i64_w, i32_w]
      rfl
     refine pure_ (i := 16) (N := some 75) (v := undef) (a' := ?_) (bm 131071 23) rfl rfl (by kernel_rfl) (fun _ _ _ h => h) (Or.inr ⟨by rfl, rfl⟩) ?_ ?_
     rotate_left
     ·simp only [Act.put, sA, sB, sC, i64_w, i32_w]
      rfl
     refine pure_ (i := 17) (N := some 76) (v := undef) (a' := ?_) (bm 262143 23) rfl rfl (by kernel_rfl) (fun _ _ _ h => h) (Or.inr ⟨by rfl, rfl⟩) ?_ ?_
     rotate_left
     ·simp only [Act.put, sA, sB, sC, i64_w, i32_w]
      rfl
     refine pure_ (i := 18) (N := some 77) (v := undef) (a' := ?_) (bm 524287 23) rfl rfl (by kernel_rfl) (fun _ _ _ h => h) (Or.inr ⟨by rfl, rfl⟩) ?_ ?_
     rotate_left
     ·simp only [Act.put, sA, sB, sC, i64_w, i32_w]
      rfl
     refine pure_ (i := 19) (N := some 78) (v := undef) (a' := ?_) (bm 1048575 23) rfl rfl (by kernel_rfl) (fun _ _ _ h => h) (Or.inr ⟨by rfl, rfl⟩) ?_ ?_
     rotate_left
     ·simp only [Act.put, sA, sB, sC, i64_w, i32_w]
      rfl
     refine pure_ (i := 20) (N := some 79) (v := undef) (a' := ?_) (bm 2097151 23) rfl rfl (by kernel_rfl) (fun _ _ _ h => h) (Or.inr ⟨by rfl, rfl⟩) ?_ ?_
     rotate_left
     ·simp only [Act.put, sA, sB, sC, i64_w, i32_w]
      rfl
     refine pure_ (i := 21) (N := some 80) (v := undef) (a' := ?_) (bm 4194303 23) rfl rfl (by kernel_rfl) (fun _ _ _ h => h) (Or.inr ⟨by rfl, rfl⟩) ?_ ?_
     rotate_left
     ·simp only [Act.put, sA, sB, sC, i64_w, i32_w]
      rfl
     refine pure_ (i := 22) (N := some 81) (v := ?_) (a' := ?_) (bm 8388607 23) rfl rfl (by kernel_rfl) (fun _ _ _ h => h) (Or.inl ⟨by rfl, ?_⟩) ?_ ?_
     rotate_left
     ·intro w'
      go_simp
      with_reducible rfl
     rotate_left
     ·simp only [Act.put, sA, sB, sC, i64_w, i32_w]
      rfl
     refine done_ (by kernel_rfl) ?_
     go_wp2
     go_meet
     case rel => exact ⟨rfl, ⟨HO.out.drew⟩⟩
   case rest =>
   obtain ⟨rfl, HO9⟩ := hcut
   clear HO e1
   cases b with
   | true =>
    have hz : 0 < o.length := by
     have hb := HB.out
     rw [dofB] at hb
     by_cases hz : 0 < o.length
     ·exact hz
     ·rw [if_neg hz] at hb; cases hb
    have p0 : 0 ≤ (o.length : Int) - 1 := by omega
    have r0 : (o.length : Int) - 1 < (o.length : Int) := by omega
    obtain ⟨go, co, eo, gb, gl2, cells, hblk⟩ := Kd.N_form HO9.out.row hz
    injection eo with ea en ec
    subst ea
    subst ec
    clear en
    obtain ⟨ce, hcl, hM, hcc, hfr⟩ := Kd.N_elem HO9.out.row z95 ((o.length : Int) - 1) p0 r0
    obtain ⟨D2, k2, D3, k3, rfl, hm2, hF2, hm3, hF3⟩ := k95_openF hM
    have hix : ∀ j, (((o.length : Int) - 1).toNat * k95.sz + j) = (o.length - 1) * 4 + j := fun j => by show (((o.length : Int) - 1).toNat * 4 + j) = _; omega
    have hy1 : wc.cell? ⟨go, (o.length - 1) * 4 + 1, none⟩ = some (.int .i64 (rd_T95 o ((o.length : Int) - 1)).f1) := by
     have := hcc 1 _ rfl
     rwa [hix] at this
    have hfy1 : wc.frozen? ⟨go, (o.length - 1) * 4 + 1, none⟩ = false := by
     have := hfr 1
     rwa [hix] at this
    have HSEG := Aside0.mk (Kd.N_seg HO9.out.row ((o.length : Int) - 1) p0 r0 (seg := [.int .i64 (wrap64 ((rd_T95 o ((o.length : Int) - 1)).f1 + 1))]) (j := 1) hcl hcc (by show 2 ≤ 4; omega)
     (x' := (⟨(rd_T95 o ((o.length : Int) - 1)).f0, wrap64 ((rd_T95 o ((o.length : Int) - 1)).f1 + 1), (rd_T95 o ((o.length : Int) - 1)).f2, (rd_T95 o ((o.length : Int) - 1)).f3⟩ : S95)) (k95_mkF _ _ ⟨(rd_T95 o ((o.length : Int) - 1)).f0, wrap64 ((rd_T95 o ((o.length : Int) - 1)).f1 + 1), (rd_T95 o ((o.length : Int) - 1)).f2, (rd_T95 o ((o.length : Int) - 1)).f3⟩ hm2 hF2 hm3 hF3) (fun _ hk => hk))
    have HGB := Aside0.mk gb
    have HNE := Aside0.mk (show ga ≠ go from fun e => Kd.N_ne HO9.out.row HO9.out.bk (by decide) (by rw [e]; rfl))
    clear hcl hM hcc hfr gb gl2 hblk hm2 hF2 hm3 hF3 hix HB
    go_wp2
    go_roundg gl
    case measure => omega
    case rel =>
     refine ⟨i + 1, keepO o 1 t true, [], 0, rfl, by simp [wk], HIG, ⟨DfO.clear ⟨blk_far (p := ⟨go, (o.length - 1) * 4 + 1, none⟩) HO9.out.bk HNE.out _, ?_, below_set HO9.out.bel HGB.out⟩⟩, HL⟩
     have h2 := HSEG.out.1
     simp only [World.setCells, show k95.sz = 4 from rfl, show ((o.length : Int) - 1).toNat = o.length - 1 by omega] at h2
     have h3 : (keepO o 1 t true).length = o.length := by simp [keepO]
     exact h2
   | false =>
    have e2' : wc.cell? ⟨ga, 2, none⟩ = some (.slice (some ad2) l2.length c2) := (blk_cell HO9.out.bk 2).trans rfl
    have hx2 := (HO9.out.bel.cell (World.block_lt_of_cell? w _ HX2.out)).trans HX2.out
    simp only [Int.toNat_natCast] at hx2
    have HFT := Aside0.mk (Kd.F_step (Kd.C_F k91_heap HC2.out) (fun k hk _ => HO9.out.bel.block k hk))
    clear HB
    go_wp2_with (at_builtin; refine Kd.N_append k95 (w0 := w) w.heap.size rfl (.tmp 90) (.tmp 97) 28 95 (.agg #[.int .i64 0, .int .i64 0, .slice none 0 0, .slice none 0 0]) 64 rfl Try.underlying28 info95 rfl (by decide) (by decide) _ o ⟨0, 1, t, []⟩ _ (fun _ => True) (fun k => k < w.heap.size) rfl (by simp [Act.eval]) (k95_mkF _ _ ⟨0, 1, t, []⟩ HM2.out HFT.out (Nat.le_refl 0) (Kd.F_nil _ _ _)) (fun k hk => ⟨trivial, fun e => by have := Kd.N_base HO9.out.row k e.symm; omega⟩) (fun _ _ => trivial) HO9.out.row HO9.out.bel HO9.out.bel.size (by have := HLO.out; omega) ?_; intro v1 w4 hR hB hg hat; have HW := Aside0.mk (HO9.out.app hR hB hg); clear hR hB hg hat)
    go_roundg gl
    case measure => omega
    case rel => exact ⟨i + 1, keepO o 1 t false, [], 0, rfl, by simp [wk], HIG, ⟨HW.out.clear⟩, HL⟩
def sOn : ByteArray := ⟨#[111, 110]⟩
def sBold : ByteArray := ⟨#[98, 111, 108, 100]⟩
def sNil : ByteArray := ⟨#[]⟩
def onL (name : ByteArray) : List S91 := [⟨name, sOn⟩]
def addsL (i : Nat) (name : ByteArray) : Nat → List S26
 | 0 => []
 | j + 1 => addsL i name j ++ [⟨65 + ((i + j) % 26 : Nat), 0, onL name⟩]
def attrsL (y : Int) (name : ByteArray) : List S91 := if y = 1 then onL sBold else if y = 2 then [⟨sBold, sNil⟩] else if y = 3 then [⟨sBold, name⟩, ⟨name, sOn⟩] else []
def chL (raw : List Int) (name : ByteArray) : Nat → Nat → Nat → List (List S26) → List Bool → List (List S91) → Option (List (List S26) × List Bool × List (List S91))
 | 0, i, u, As, Cs, Ts => (rollF raw u 8).bind fun x => some (As ++ [addsL i name (x - 5).toNat], Cs, Ts)
 | m + 1, i, u, As, Cs, Ts => (rollF raw u 8).bind fun x => (rollF raw (rollU raw u) 8).bind fun y => (rollF raw (rollU raw (rollU raw u)) 8).bind fun z =>
  chL raw name m (i + 1) (rollU raw (rollU raw (rollU raw u))) (As ++ [addsL i name (x - 5).toNat]) (Cs ++ [z == 0]) (Ts ++ [attrsL y name])
def changeF (k : Nat) (n : Int) (raw : List Int) (name : ByteArray) : Option (List S95) :=
 if 0 ≤ n ∧ n ≤ 1048576 then (chL raw name n.toNat 0 0 [] [] []).bind fun t => dofL k t.1 t.2.1 t.2.2 [] [] 0 else none
structure ChS (w : World) (ga gd : Nat) (raw : List Int) (n : Nat) (As : List (List S26)) (Cs : List Bool) (Ts : List (List S91)) (cA cB cC vA vB vC u : Value) (wr : World) : Prop where
 lga : w.heap.size ≤ ga
 lgd : w.heap.size ≤ gd
 bk : wr.heap[ga]? = some (.cells #[cA, cB, cC] 103 (0, 0))
 rA : Kd.R (Kd.slice 26 k26) 22 wr w.heap.size (fun k => True ∧ some k ≠ u.ownBlock) vA As
 rB : Kd.R Kd.bool 4 wr w.heap.size (fun _ => True) vB Cs
 rC : Kd.R (Kd.slice 91 k91) 24 wr w.heap.size (fun _ => True) vC Ts
 dice : DiceSt w gd raw n wr
 bel : Below w.heap.size w wr
section
variable {w wr w1 : World} {ga gd n : Nat} {raw : List Int} {As As' : List (List S26)} {Cs Cs' : List Bool} {Ts Ts' : List (List S91)} {cA cB cC vA vB vC u u1 v1 lv : Value} {al al' : List S26} {l : List S91}
theorem DiceSt.block (h : DiceSt w gd raw n wr) (hb : w1.heap[gd]? = wr.heap[gd]?) : DiceSt w gd raw n w1 := by
 obtain ⟨A, c, hk, hC, hc⟩ := h.ex
 exact ⟨A, c, hb.trans hk, hC, hc⟩
theorem DiceSt.typed (h : DiceSt w gd raw n wr) : ∃ cs, wr.heap[gd]? = some (.cells cs 79 (0, 0)) := by
 obtain ⟨A, c, hk, hC, hc⟩ := h.ex
 exact ⟨_, hk⟩
theorem ChS.below (h : ChS w ga gd raw n As Cs Ts cA cB cC vA vB vC u wr) (hb : Below wr.heap.size wr w1) : ChS w ga gd raw n As Cs Ts cA cB cC vA vB vC u w1 := by
 obtain ⟨cs, hd⟩ := h.dice.typed
 exact ⟨h.lga, h.lgd, (hb.block _ (blk_lt h.bk)).trans h.bk, Kd.R_below h.rA hb, Kd.R_below h.rB hb, Kd.R_below h.rC hb, h.dice.block (hb.block _ (blk_lt hd)), below_step h.bel hb⟩
theorem ChS.drew (h : ChS w ga gd raw n As Cs Ts cA cB cC vA vB vC u wr) : ChS w ga gd raw n As Cs Ts cA cB cC vA vB vC u wr.drew := h.below (below_drew1 (Below.refl _ _))
theorem r_keep {α : Type} {d : Kd α} {e t : Nat} {base : Nat} {ok : Nat → Prop} {v : Value} {xs : List α} {cs : Array Value} {g : Nat} (h : d.R e wr base ok v xs) (hg : wr.heap[g]? = some (.cells cs t (0, 0))) (ht : ∀ q, q ∈ e :: d.E → q ≠ t) (hfr : ∀ k, k < wr.heap.size → k ≠ g → w1.heap[k]? = wr.heap[k]?) : d.R e w1 base ok v xs :=
 Kd.R_mono (Kd.R_step (Kd.R_types h hg ht) (fun k hk hlt => hfr k hlt hk.2)) (fun _ hk => hk.1)
theorem r_other {α β : Type} {d : Kd α} {d' : Kd β} {e e' : Nat} {base base' : Nat} {ok ok' : Nat → Prop} {v v' : Value} {xs : List α} {ys : List β} (h : d.R e wr base ok v xs) (h' : d'.R e' wr base' ok' v' ys) (ht : ∀ q, q ∈ e :: d.E → q ≠ e') (hg : wr.grownBy w1 v'.ownBlock) : d.R e w1 base ok v xs :=
 Kd.R_mono (Kd.R_grown (Kd.R_apartR h h' ht) hg (fun _ hk => hk.2)) (fun _ hk => hk.1)
theorem ChS.rolled (h : ChS w ga gd raw n As Cs Ts cA cB cC vA vB vC u wr) (hd : DiceSt w gd raw (rollU raw n) w1) (hfr : ∀ k, k < wr.heap.size → k ≠ gd → w1.heap[k]? = wr.heap[k]?) (hb : Below w.heap.size w w1) : ChS w ga gd raw (rollU raw n) As Cs Ts cA cB cC vA vB vC u w1 := by
 obtain ⟨cs, hgd⟩ := h.dice.typed
 have hne : ga ≠ gd := fun e => by have := h.bk; rw [e, hgd] at this; injection this with this; injection this with _ this; exact absurd this (by decide)
 exact ⟨h.lga, h.lgd, (hfr _ (blk_lt h.bk) hne).trans h.bk, r_keep h.rA hgd (by decide) hfr, r_keep h.rB hgd (by decide) hfr, r_keep h.rC hgd (by decide) hfr, hd, hb⟩
theorem ChS.roll_calls (h : ChS w ga gd raw n As Cs Ts cA cB cC vA vB vC u wr) (hu : n < 4611686018427387904) {x : Int} (hf : rollF raw n 8 = some x) :
  Calls Try.prog 40 #[.pointer (some ⟨gd, 0, none⟩), .int .i64 8] wr fun e w' => e = .returned (.int .i64 x) ∧ (ChS w ga gd raw (rollU raw n) As Cs Ts cA cB cC vA vB vC u w' ∧ (∀ k, k < wr.heap.size → k ≠ gd → w'.heap[k]? = wr.heap[k]?) ∧ wr.heap.size ≤ w'.heap.size) := by
 refine (PDelta.roll_calls w gd raw n 8 x wr h.lgd h.dice h.bel hu hf).mono ?_
 rintro e w' ⟨rfl, hd, ⟨hs, hfr⟩, hb⟩
 exact ⟨rfl, h.rolled hd hfr hb, hfr, hs⟩
theorem ChS.appU (h : ChS w ga gd raw n As Cs Ts cA cB cC vA vB vC u wr) (hu : Kd.R k26 26 wr w.heap.size (fun _ => True) u al) (hg : wr.grownBy w1 u.ownBlock) (hat : u1.ownBlock = u.ownBlock ∨ ∃ b, u1.ownBlock = some b ∧ wr.heap.size ≤ b) (hb : Below w.heap.size w w1) :
  ChS w ga gd raw n As Cs Ts cA cB cC vA vB vC u1 w1 := by
 obtain ⟨cs, hgd⟩ := h.dice.typed
 exact ⟨h.lga, h.lgd, blk_grown h.bk hg (Kd.R_ne hu h.bk (by decide)), Kd.R_after h.rA hg hat, r_other h.rB hu (by decide) hg, r_other h.rC hu (by decide) hg, h.dice.block (hg.block _ (blk_lt hgd) (Kd.R_ne hu hgd (by decide))), hb⟩
theorem ChS.appA (h : ChS w ga gd raw n As Cs Ts cA cB cC vA vB vC u wr) (hR : Kd.R (Kd.slice 26 k26) 22 w1 w.heap.size (fun _ => True) v1 As') (hg : wr.grownBy w1 vA.ownBlock) (hb : Below w.heap.size w w1) :
  ChS w ga gd raw n As' Cs Ts cA cB cC v1 vB vC (.slice none 0 0) w1 := by
 obtain ⟨cs, hgd⟩ := h.dice.typed
 exact ⟨h.lga, h.lgd, blk_grown h.bk hg (Kd.R_ne h.rA h.bk (by decide)), Kd.R_mono hR (fun _ _ => ⟨trivial, by simp [Value.ownBlock]⟩), r_other h.rB h.rA (by decide) hg, r_other h.rC h.rA (by decide) hg, h.dice.block (hg.block _ (blk_lt hgd) (Kd.R_ne h.rA hgd (by decide))), hb⟩
theorem ChS.appB (h : ChS w ga gd raw n As Cs Ts cA cB cC vA vB vC u wr) (hR : Kd.R Kd.bool 4 w1 w.heap.size (fun _ => True) v1 Cs') (hg : wr.grownBy w1 vB.ownBlock) (hb : Below w.heap.size w w1) :
  ChS w ga gd raw n As Cs' Ts cA cB cC vA v1 vC u w1 := by
 obtain ⟨cs, hgd⟩ := h.dice.typed
 exact ⟨h.lga, h.lgd, blk_grown h.bk hg (Kd.R_ne h.rB h.bk (by decide)), r_other h.rA h.rB (by decide) hg, hR, r_other h.rC h.rB (by decide) hg, h.dice.block (hg.block _ (blk_lt hgd) (Kd.R_ne h.rB hgd (by decide))), hb⟩
theorem ChS.appC (h : ChS w ga gd raw n As Cs Ts cA cB cC vA vB vC u wr) (hR : Kd.R (Kd.slice 91 k91) 24 w1 w.heap.size (fun _ => True) v1 Ts') (hg : wr.grownBy w1 vC.ownBlock) (hb : Below w.heap.size w w1) :
  ChS w ga gd raw n As Cs Ts' cA cB cC vA vB v1 u w1 := by
 obtain ⟨cs, hgd⟩ := h.dice.typed
 exact ⟨h.lga, h.lgd, blk_grown h.bk hg (Kd.R_ne h.rC h.bk (by decide)), r_other h.rA h.rC (by decide) hg, r_other h.rB h.rC (by decide) hg, hR, h.dice.block (hg.block _ (blk_lt hgd) (Kd.R_ne h.rC hgd (by decide))), hb⟩
theorem ChS.set (h : ChS w ga gd raw n As Cs Ts cA cB cC vA vB vC u wr) (j : Nat) (x a b c : Value) (e : (#[cA, cB, cC] : Array Value).setIfInBounds j x = #[a, b, c]) :
  ChS w ga gd raw n As Cs Ts a b c vA vB vC u (wr.setCell ⟨ga, j, none⟩ x) := by
 obtain ⟨cs, hgd⟩ := h.dice.typed
 have hne : gd ≠ ga := fun e => by have := h.bk; rw [← e, hgd] at this; injection this with this; injection this with _ this; exact absurd this (by decide)
 exact ⟨h.lga, h.lgd, blk_put h.bk j x e, Kd.R_set h.rA h.bk (by decide) j x, Kd.R_set h.rB h.bk (by decide) j x, Kd.R_set h.rC h.bk (by decide) j x, h.dice.block (Below.heap_setCell _ _ _ _ hne), below_set h.bel h.lga⟩
end
def chR (raw : List Int) (name : ByteArray) : Nat → Nat → Nat → List (List S26) → List Bool → List (List S91) → Option (List (List S26) × List Bool × List (List S91))
 | 0, i, u, As, Cs, Ts => some (As, Cs, Ts)
 | m + 1, i, u, As, Cs, Ts => (rollF raw (rollU raw u) 8).bind fun y => (rollF raw (rollU raw (rollU raw u)) 8).bind fun z =>
  chL raw name m (i + 1) (rollU raw (rollU raw (rollU raw u))) As (Cs ++ [z == 0]) (Ts ++ [attrsL y name])
theorem chL_eq (raw : List Int) (name : ByteArray) (m i u : Nat) (As : List (List S26)) (Cs : List Bool) (Ts : List (List S91)) :
  chL raw name m i u As Cs Ts = (rollF raw u 8).bind fun x => chR raw name m i u (As ++ [addsL i name (x - 5).toNat]) Cs Ts := by cases m <;> rfl
theorem chL_len (raw : List Int) (name : ByteArray) : ∀ (m i u : Nat) (As : List (List S26)) (Cs : List Bool) (Ts : List (List S91)) (t : List (List S26) × List Bool × List (List S91)), chL raw name m i u As Cs Ts = some t →
  t.1.length = As.length + m + 1 ∧ t.2.1.length = Cs.length + m ∧ t.2.2.length = Ts.length + m
 | 0, i, u, As, Cs, Ts, t, h => by
  obtain ⟨x, _, h⟩ := Option.bind_eq_some_iff.1 h
  injection h with h
  subst h
  simp
 | m + 1, i, u, As, Cs, Ts, t, h => by
  obtain ⟨x, _, h⟩ := Option.bind_eq_some_iff.1 h
  obtain ⟨y, _, h⟩ := Option.bind_eq_some_iff.1 h
  obtain ⟨z, _, h⟩ := Option.bind_eq_some_iff.1 h
  have := chL_len raw name m _ _ _ _ _ t h
  simp only [List.length_append, List.length_singleton] at this
  omega
theorem r_readsM {α : Type} {d : Kd α} {e : Nat} {w : World} {base : Nat} {ok : Nat → Prop} {A : Option Addr} {n c : Nat} {xs : List α} (h : d.R e w base ok (.slice A n c) xs) : ReadsRow (d.M w base (fun k => ok k ∧ some k ≠ (Value.slice A n c).ownBlock)) d.sz w A n xs := by
 obtain ⟨A', c', he, hl, hr⟩ := OwnRow.reads h.2
 injection he with h1 h2 h3
 subst h1
 rw [h2] at hr ⊢
 exact hr
theorem m_apart {α β : Type} {d : Kd α} {d' : Kd β} {e' : Nat} {wr : World} {base base' : Nat} {ok ok' : Nat → Prop} {x : α} {cs : List Value} {v' : Value} {ys : List β} (h : d.M wr base ok x cs) (h' : d'.R e' wr base' ok' v' ys) (ht : ∀ q, q ∈ d.E → q ≠ e') : d.M wr base (fun k => ok k ∧ some k ≠ v'.ownBlock) x cs := by
 cases hv : v'.ownBlock with
 | none => exact d.M_mono (fun k hk => ⟨hk, by simp⟩) h
 | some g =>
  obtain ⟨cells, hc⟩ := Kd.R_typed h' g hv
  exact d.M_mono (fun k hk => ⟨hk.1, fun e => hk.2 (Option.some.inj e)⟩) (Kd.M_types h hc ht)
theorem ChS.made {w wr w1 : World} {ga gd n : Nat} {raw : List Int} {As : List (List S26)} {Cs : List Bool} {Ts : List (List S91)} {cA cB cC vA vB vC u : Value} (h : ChS w ga gd raw n As Cs Ts cA cB cC vA vB vC u wr) (hg : wr.grownBy w1 none) (hb : Below w.heap.size w w1) : ChS w ga gd raw n As Cs Ts cA cB cC vA vB vC u w1 := by
 obtain ⟨cs, hd⟩ := h.dice.typed
 exact ⟨h.lga, h.lgd, (hg.block _ (blk_lt h.bk) (by simp)).trans h.bk, Kd.R_grown h.rA hg (fun _ _ => by simp), Kd.R_grown h.rB hg (fun _ _ => by simp), Kd.R_grown h.rC hg (fun _ _ => by simp), h.dice.block (hg.block _ (blk_lt hd) (by simp)), hb⟩
theorem info22 : (Try.prog.info? 22).map (fun i => (i.zero, i.size, i.bytes)) = some (some (.slice none 0 0), 1, 24) := by kernel_rfl
theorem info4 : (Try.prog.info? 4).map (fun i => (i.zero, i.size, i.bytes)) = some (some (.bool false), 1, 1) := by kernel_rfl
theorem info24 : (Try.prog.info? 24).map (fun i => (i.zero, i.size, i.bytes)) = some (some (.slice none 0 0), 1, 24) := by kernel_rfl
theorem roll8_range {raw : List Int} {u : Nat} {x : Int} (h : rollF raw u 8 = some x) : 0 ≤ x ∧ x ≤ 7 := by
 unfold rollF at h
 split at h
 ·injection h with h; omega
 ·rw [show wrap64 (8 - 1) = 7 by unfold wrap64; omega] at h
  obtain ⟨q, hq⟩ : ∃ q, q = wrap64 (rd raw ((u % raw.length : Nat) : Int) + (((u + 1) / raw.length : Nat) : Int)) := ⟨_, rfl⟩
  rw [← hq] at h
  clear hq
  unfold chanceryref1_Within.f at h
  rw [show wrap64 (7 - 0) = 7 by unfold wrap64; omega, show wrap64 (7 + 1) = 8 by unfold wrap64; omega, if_neg (by decide)] at h
  simp only [Int.reduceLE, ↓reduceIte, Option.some.injEq] at h
  have h3 : -8 < Int.tmod q 8 ∧ Int.tmod q 8 < 8 := ⟨Int.lt_tmod_of_pos q (by decide), Int.tmod_lt_of_pos q (by decide)⟩
  have h4 : wrap64 (Int.tmod q 8 + 8) = Int.tmod q 8 + 8 := by unfold wrap64; omega
  rw [h4] at h
  have h5 : 0 ≤ Int.tmod (Int.tmod q 8 + 8) 8 := Int.tmod_nonneg _ (by omega)
  have h6 : Int.tmod (Int.tmod q 8 + 8) 8 < 8 := Int.tmod_lt_of_pos _ (by decide)
  have h7 : wrap64 (0 + Int.tmod (Int.tmod q 8 + 8) 8) = Int.tmod (Int.tmod q 8 + 8) 8 := by unfold wrap64; omega
  rw [h7] at h
  omega
theorem sum_w (i j M c : Nat) (hi : i ≤ M) (hM : M ≤ 1048576) (hj : j < c) (hc : c ≤ 2) : wrap64 ((i : Int) + (j : Int)) = ((i + j : Nat) : Int) := by unfold wrap64; omega
theorem sum_q (i j q : Nat) (hq : q = (i + j) % 26) : Int.tmod ((i + j : Nat) : Int) 26 = (q : Int) := by rw [Int.tmod_eq_emod_of_nonneg (Int.natCast_nonneg _), hq]; omega
theorem sum_q2 (i j q : Nat) (hq : q = (i + j) % 26) : Int.tmod ((i : Int) + (j : Int)) 26 = (q : Int) := sum_q i j q hq
theorem sum_65 (q : Nat) (h : q < 26) : wrap64 (65 + (q : Int)) = 65 + (q : Int) := by unfold wrap64; omega
theorem q_lt (i j : Nat) : (i + j) % 26 < 26 := Nat.mod_lt _ (Nat.zero_lt_succ _)
theorem addsL_len (i : Nat) (name : ByteArray) : ∀ j, (addsL i name j).length = j
 | 0 => rfl
 | j + 1 => by rw [addsL, List.length_append, addsL_len i name j]; rfl
theorem rollU_le (raw : List Int) (u : Nat) : rollU raw u ≤ u + 1 := by unfold rollU; split <;> omega
set_option maxRecDepth 100000 in
set_option maxHeartbeats 1000000 in
theorem change_calls (k : Nat) (n : Int) (A0 : Option Addr) (c0 : Nat) (raw : List Int) (name : ByteArray) (r : List S95) (w : World) (hr0 : Kd.C (Kd.int .i64) w A0 raw.length raw) (hc0 : raw.length ≤ c0) (h : changeF k n raw name = some r) :
  Calls Try.prog 21 #[.int .i64 n, .slice A0 raw.length c0, .string name] w fun e w' => ∃ v0_ : Value, e = .returned v0_ ∧ Kd.N k95 95 w' w.heap.size (fun _ => True) v0_ r ∧ Below w.heap.size w w' := by
 have hu95 := Try.underlying95
 have hu26 := Try.underlying26
 have hu91 := Try.underlying91
 have hu103 := Try.underlying103
 have hon2 : chancerykeep1_on.f (⟨#[98, 111, 108, 100]⟩ : ByteArray) = some (onL sBold) := rfl
 have hon : chancerykeep1_on.f name = some (onL name) := rfl
 have hu79 := Try.underlying79
 have HR0 := Aside0.mk hr0
 have HC0 := Aside0.mk hc0
 rw [changeF] at h
 by_cases hn : 0 ≤ n ∧ n ≤ 1048576
 rotate_left
 ·rw [if_neg hn] at h
  cases h
 rw [if_pos hn] at h
 obtain ⟨⟨Ar, Cr, Tr⟩, ht, hdof⟩ := Option.bind_eq_some_iff.1 h
 obtain ⟨M, hM⟩ : ∃ M : Nat, n = (M : Int) := ⟨n.toNat, by omega⟩
 subst hM
 rw [Int.toNat_natCast] at ht
 have HM := Aside0.mk (show M ≤ 1048576 by omega)
 have HLN := Aside0.mk (show Ar.length = M + 1 ∧ Cr.length = M ∧ Tr.length = M by have := chL_len _ _ _ _ _ _ _ _ _ ht; simpa using this)
 have HZ := Aside0.mk (show chL raw name (M - 0) 0 0 [] [] [] = some (Ar, Cr, Tr) from ht)
 have HDL := Aside0.mk (show dofL k Ar Cr Tr [] [] 0 = some r from hdof)
 clear hdof
 clear hr0 hc0 h hn ht
 have HJ0 : Aside0 (ChS w w.heap.size (w.heap.size + 1) raw 0 [] [] [] (.slice none 0 0) (.slice none 0 0) (.slice none 0 0) (.slice none 0 0) (.slice none 0 0) (.slice none 0 0) (.slice none 0 0) ((w.alloc (Obj.cells #[Value.slice none 0 0, Value.slice none 0 0, Value.slice none 0 0] 103 (0, 0))).alloc (Obj.cells #[Value.slice A0 raw.length c0, Value.int IntKind.i64 0] 79 (0, 0)))) := by
  refine ⟨⟨Nat.le_refl _, by omega, blk_alloc (blk_new w _) _, Kd.R_nil _ _ _ _ _, Kd.R_nil _ _ _ _ _, Kd.R_nil _ _ _ _ _, ⟨A0, c0, ?_, HR0.out, HC0.out⟩, below_alloc (below_alloc (Below.refl _ _) _) _⟩⟩
  have := blk_new (w.alloc (Obj.cells #[Value.slice none 0 0, Value.slice none 0 0, Value.slice none 0 0] 103 (0, 0))) (Obj.cells #[Value.slice A0 raw.length c0, Value.int IntKind.i64 0] 79 (0, 0))
  rw [World.size_alloc] at this
  exact this
 go_enter Try.func21, Try.ntmps21
 go_wp2
 obtain ⟨gd, hgd⟩ : ∃ g, g = w.heap.size + 1 := ⟨_, rfl⟩
 rw [← hgd] at HJ0
 rw [← hgd]
 clear hgd
 obtain ⟨ga, hga⟩ : ∃ g, g = w.heap.size := ⟨_, rfl⟩
 have HJ1 : Aside0 (ChS w ga gd raw 0 [] [] [] (.slice none 0 0) (.slice none 0 0) (.slice none 0 0) (.slice none 0 0) (.slice none 0 0) (.slice none 0 0) (.slice none 0 0) ((w.alloc (Obj.cells #[Value.slice none 0 0, Value.slice none 0 0, Value.slice none 0 0] 103 (0, 0))).alloc (Obj.cells #[Value.slice A0 raw.length c0, Value.int IntKind.i64 0] 79 (0, 0)))) := ⟨by rw [hga]; exact HJ0.out⟩
 rw [show w.heap.size = ga from hga.symm]
 clear hga HJ0
 go_loopg [9] (M + 1) (fun m v9 wr => ∃ (i u : Nat) (As : List (List S26)) (Cs : List Bool) (Ts : List (List S91)) (vA vB vC : Value), v9 = .int .i64 (i : Int) ∧ Aside0 (m + i = M + 1 ∧ u ≤ 3 * i ∧ As.length = i ∧ Cs.length = i ∧ Ts.length = i) ∧ Aside0 (ChS w ga gd raw u As Cs Ts vA vB vC vA vB vC (.slice none 0 0) wr) ∧ Aside0 (chL raw name (M - i) i u As Cs Ts = some (Ar, Cr, Tr)))
 case atStart => exact ⟨0, 0, [], [], [], _, _, _, rfl, ⟨by simp⟩, HJ1, HZ⟩
 case round =>
  clear HJ1 HZ
  obtain ⟨i, u, As, Cs, Ts, vA, vB, vC, rfl, HI, HS, HL⟩ := hrel
  by_cases hi : i ≤ M
  rotate_left
  ·have g1 : decide ((i : Int) ≤ (M : Int)) = false := decide_eq_false (by omega)
   have hL := HL.out
   rw [chL_eq] at hL
   exfalso
   have h1 := HLN.out
   have h2 := chL_len _ _ _ _ _ _ _ _ _ HL.out
   have := HI.out
   simp only [List.length_nil] at h1 h2
   omega
  obtain ⟨gl, rfl⟩ : ∃ gl, gk = gl + 1 := ⟨gk - 1, by have := HI.out; omega⟩
  have g1 : decide ((i : Int) ≤ (M : Int)) = true := decide_eq_true (by omega)
  have g1' : decide (i ≤ M) = true := decide_eq_true hi
  have hL := HL.out
  rw [chL_eq] at hL
  obtain ⟨x, hx, hL⟩ := Option.bind_eq_some_iff.1 hL
  have HX := Aside0.mk hx
  have HLR := Aside0.mk hL
  have HXR := Aside0.mk (roll8_range hx)
  obtain ⟨c, hc⟩ : ∃ c : Nat, c = (x - 5).toNat := ⟨_, rfl⟩
  rw [← hc] at HLR
  obtain ⟨y, hy⟩ : ∃ y, y = x - 5 := ⟨_, rfl⟩
  have hw1 : IntKind.i64.wrap (x - 5) = y := by rw [i64_w, hy]; have := HXR.out; unfold wrap64; omega
  have hw2 : wrap64 (x - 5) = y := by rw [hy]; have := HXR.out; unfold wrap64; omega
  have hmx : (if 0 < y then y else 0) = (c : Int) := by rw [hc, hy]; split <;> omega
  have HCB := Aside0.mk (show c ≤ 2 by rw [hc]; have := HXR.out; omega)
  clear hx hL HL hc hy
  go_wp2_with (go_at_call 40; (with_reducible refine (HS.out.roll_calls (by have := HI.out; have := HM.out; omega) HX.out).mono ?_); rintro e1 w5 ⟨rfl, hJ, _, _⟩; clear HS; have HS := Aside0.mk hJ; clear hJ)
  clear hw1 hw2 hmx
  go_loopg [10, 25] c (fun m v10 v25 wx => ∃ (j : Nat), v25 = .int .i64 (j : Int) ∧ Aside0 (m + j = c) ∧ Aside0 (ChS w ga gd raw (rollU raw u) As Cs Ts vA vB vC vA vB vC v10 wx ∧ Kd.R k26 26 wx w.heap.size (fun _ => True) v10 (addsL i name j)))
  case atStart => exact ⟨0, rfl, ⟨rfl⟩, ⟨HS.out, Kd.R_nil _ _ _ _ _⟩⟩
  case round =>
   clear HS
   obtain ⟨j, rfl, HJ, HS⟩ := hrel
   obtain ⟨A4, n4, e4⟩ := Kd.R_slice HS.out.2
   subst e4
   by_cases hj : j < c
   ·obtain ⟨g2, rfl⟩ : ∃ g2, gk = g2 + 1 := ⟨gk - 1, by have := HJ.out; omega⟩
    have k1 : decide ((j : Int) < (c : Int)) = true := decide_eq_true (by omega)
    have k1' : decide (j < c) = true := decide_eq_true hj
    go_upto_region 10 with (fail)
    have HWK := Aside0.mk (show wrap64 ((j : Int) + 1) = (j : Int) + 1 by have := HCB.out; unfold wrap64; omega)
    have hlen : (addsL i name j).length = j := addsL_len i name j
    have HJL := Aside0.mk (show (addsL i name j).length ≤ 2 by have := HCB.out; omega)
    have HJ3 := Aside0.mk (show g2 + (j + 1) = c by have := HJ.out; omega)
    have HIM := Aside0.mk hi
    have HJC := Aside0.mk hj
    clear hlen
    obtain ⟨q, hq⟩ : ∃ q : Nat, q = (i + j) % 26 := ⟨_, rfl⟩
    have HQ := Aside0.mk (show addsL i name (j + 1) = addsL i name j ++ [⟨65 + (q : Int), 0, onL name⟩] by rw [addsL, hq])
    have w1 := sum_w i j M c hi HM.out hj HCB.out
    have w2 := sum_q i j q hq
    have w2' := sum_q2 i j q hq
    have w3 := sum_65 q (by rw [hq]; exact q_lt i j)
    clear hq hj hi
    go_upto_region 11 with (first
     | (go_at_call 53; with_reducible refine (chancerykeep1_on.calls name (onL name) _ hon).mono ?_; rintro e w6 ⟨v6, rfl, hR6, hb6⟩; obtain ⟨A6, n6, rfl⟩ := Kd.R_slice hR6; have HR6 := Aside0.mk (Kd.R_lower (Kd.R_newR hR6 HS.out.2) HS.out.1.bel.size); have HS6 := Aside0.mk (And.intro (HS.out.1.below hb6) (Kd.R_below HS.out.2 hb6)); clear hR6 hb6)
     | (at_builtin; refine Kd.R_append k26 (w0 := w) w.heap.size rfl (.tmp 28) (.tmp 37) 22 26 (.agg #[.int .i64 0, .int .i64 0, .slice none 0 0]) 40 rfl Try.underlying22 info26 rfl (by decide) (by decide) _ (addsL i name j) ⟨65 + (q : Int), 0, onL name⟩ _ (fun _ => True) (fun k => True ∧ some k ≠ (Value.slice A4 (addsL i name j).length n4).ownBlock) rfl (by simp [Act.eval]) (k26_mkM _ _ _ ⟨65 + (q : Int), 0, onL name⟩ HR6.out) (fun _ hk => hk) (fun _ _ => trivial) HS6.out.2 HS6.out.1.bel HS6.out.1.bel.size (by have := HJL.out; omega) ?_; intro v1 w7 hR7 hB7 hg7 hat7; have HS7 := Aside0.mk (And.intro (HS6.out.1.appU HS6.out.2 hg7 hat7 hB7) hR7); clear hR7 hB7 hg7 hat7))
    clear w1 w2 w2' w3
    have hi := HIM.out
    have wk2 := HWK.out
    go_wp2
    go_roundg g2
    case measure => omega
    case rel => exact ⟨j + 1, by simp [wk2], HJ3, ⟨HS7.out.1, by rw [HQ.out]; exact HS7.out.2⟩⟩
   ·obtain rfl : c = j := by have := HJ.out; omega
    have k1 : decide ((c : Int) < (c : Int)) = false := decide_eq_false (by omega)
    have k1' : decide (c < c) = false := decide_eq_false hj
    obtain ⟨A5, n5, e5⟩ := Kd.R_slice HS.out.1.rA
    subst e5
    have hcA : wr.cell? ⟨ga, 0, none⟩ = some (.slice A5 As.length n5) := (blk_cell HS.out.1.bk 0).trans rfl
    have HAL := Aside0.mk (show As.length ≤ 1048577 by have := HI.out; have := HM.out; omega)
    have HIM := Aside0.mk hi
    clear hj
    go_upto_region 13 with (at_builtin; refine Kd.R_append (Kd.slice 26 k26) (w0 := w) w.heap.size rfl (.tmp 41) (.tmp 43) 100 22 (.slice none 0 0) 24 rfl Try.underlying100 info22 rfl (by decide) (by decide) _ As (addsL i name c) _ (fun _ => True) (fun k => True ∧ some k ≠ (Value.slice A5 As.length n5).ownBlock) rfl (by simp [Act.eval]) ⟨_, rfl, Kd.R_apartR HS.out.2 HS.out.1.rA (by decide)⟩ (fun _ hk => hk) (fun _ _ => trivial) (Kd.R_mono HS.out.1.rA (fun _ _ => trivial)) HS.out.1.bel HS.out.1.bel.size (by have := HAL.out; omega) ?_; intro v1 w7 hR7 hB7 hg7 hat7; obtain ⟨Ax, hAx⟩ : ∃ l, l = As ++ [addsL i name c] := ⟨_, rfl⟩; rw [← hAx] at hR7 HLR; have HAX := Aside0.mk (show Ax.length = As.length + 1 by rw [hAx]; simp); clear hAx; obtain ⟨A7, n7, e7⟩ := Kd.R_slice hR7; subst e7; have HS7 := Aside0.mk (HS.out.1.appA hR7 hg7 hB7); have hd0 : w7.cell? ⟨ga, 0, none⟩ = some _ := (blk_cell HS7.out.bk 0).trans rfl; have hf0 := blk_frozen HS7.out.bk 0; clear hR7 hB7 hg7 hat7)
    have HS8 := Aside0.mk (HS7.out.set 0 (.slice A7 Ax.length n7) (.slice A7 Ax.length n7) vB vC rfl)
    obtain ⟨w8, hw8⟩ : ∃ W, W = w7.setCell ⟨ga, 0, none⟩ (Value.slice A7 Ax.length n7) := ⟨_, rfl⟩
    rw [← hw8] at HS8
    rw [← hw8]
    clear hw8 hd0 hf0 HS7 HS hcA k1 k1'
    obtain ⟨B7, m7, e8⟩ := Kd.R_slice HS8.out.rB
    obtain ⟨D7, l7, e9⟩ := Kd.R_slice HS8.out.rC
    subst e8
    subst e9
    have hi := HIM.out
    by_cases him : i = M
    ·have g3 : ((i : Int) == (M : Int)) = true := beq_iff_eq.mpr (by omega)
     have g3' : (i == M) = true := beq_iff_eq.mpr him
     have hL := HLR.out
     rw [show M - i = 0 by omega, chR] at hL
     injection hL with hL
     injection hL with hL1 hL
     injection hL with hL2 hL3
     subst hL1 hL2 hL3
     have hcA : w8.cell? ⟨ga, 0, none⟩ = some (.slice A7 Ax.length n7) := (blk_cell HS8.out.bk 0).trans rfl
     have hcB : w8.cell? ⟨ga, 1, none⟩ = some (.slice B7 Cs.length m7) := (blk_cell HS8.out.bk 1).trans rfl
     have hcC : w8.cell? ⟨ga, 2, none⟩ = some (.slice D7 Ts.length l7) := (blk_cell HS8.out.bk 2).trans rfl
     clear hi him HIM
     have HC1 := Aside0.mk (Kd.R_reads' HS8.out.rA).2.2
     have HC2 := Aside0.mk (Kd.R_reads' HS8.out.rB).2.2
     have HC3 := Aside0.mk (Kd.R_reads' HS8.out.rC).2.2
     go_wp2_with (go_at_call 54; go_loud ((with_reducible refine (dof_calls k _ n7 Ax _ m7 Cs _ l7 Ts r w8 HC1.out HC2.out HC3.out (by have := HLN.out; omega) (by have := HLN.out; omega) (by have := HLN.out; have := HM.out; omega) HDL.out).mono ?_); rintro e1 w9 ⟨v9, rfl, hR9, hB9⟩; have HR9 := Aside0.mk (Kd.N_lower hR9 HS8.out.bel.size); have HB9 := Aside0.mk (below_step HS8.out.bel hB9); clear hR9 hB9))
     first | go_ret | go_ret2
     exact ⟨_, rfl, HR9.out, HB9.out⟩
    ·have g3 : ((i : Int) == (M : Int)) = false := beq_eq_false_iff_ne.mpr (by omega)
     have g3' : (i == M) = false := beq_eq_false_iff_ne.mpr him
     obtain ⟨m, hm⟩ : ∃ m, M - i = m + 1 := ⟨M - i - 1, by omega⟩
     have hL := HLR.out
     rw [hm, chR] at hL
     obtain ⟨y1, hy1, hL⟩ := Option.bind_eq_some_iff.1 hL
     obtain ⟨z1, hz1, hL⟩ := Option.bind_eq_some_iff.1 hL
     have HY := Aside0.mk hy1
     have HZ1 := Aside0.mk hz1
     have HLL := Aside0.mk (show chL raw name (M - (i + 1)) (i + 1) (rollU raw (rollU raw (rollU raw u))) Ax (Cs ++ [z1 == 0]) (Ts ++ [attrsL y1 name]) = some (Ar, Cr, Tr) by rw [show M - (i + 1) = m by omega]; exact hL)
     have HYR := Aside0.mk (roll8_range hy1)
     have HU := Aside0.mk (show rollU raw u ≤ 3 * i + 1 by have := rollU_le raw u; have := HI.out; omega)
     have HU2 := Aside0.mk (show rollU raw (rollU raw u) ≤ 3 * i + 2 by have := rollU_le raw (rollU raw u); have := HU.out; omega)
     have HU3 := Aside0.mk (show rollU raw (rollU raw (rollU raw u)) ≤ 3 * i + 3 by have := rollU_le raw (rollU raw (rollU raw u)); have := HU2.out; omega)
     clear hL hy1 hz1 hm him hi
     go_upto_block 4 with (go_at_call 40; (with_reducible refine (HS8.out.roll_calls (by have := HU.out; have := HIM.out; have := HM.out; omega) HY.out).mono ?_); rintro e1 w9 ⟨rfl, hJ, _, _⟩; have HS9 := Aside0.mk hJ; clear hJ)
     go_cut [12] (fun v12 wx => Aside0 (ChS w ga gd raw (rollU raw (rollU raw u)) Ax Cs Ts (.slice A7 Ax.length n7) (.slice B7 Cs.length m7) (.slice D7 Ts.length l7) (.slice A7 Ax.length n7) (.slice B7 Cs.length m7) (.slice D7 Ts.length l7) (.slice none 0 0) wx ∧ Kd.R k91 91 wx w.heap.size (fun _ => True) v12 (attrsL y1 name)))
     case first =>
      by_cases q1 : y1 = 1
      ·have q1b : (y1 == 1) = true := beq_iff_eq.mpr q1
       have HEQ := Aside0.mk (show attrsL y1 name = onL sBold from if_pos q1)
       clear q1
       go_wp2_with (go_at_call 53; with_reducible refine (chancerykeep1_on.calls (⟨#[98, 111, 108, 100]⟩ : ByteArray) (onL sBold) _ hon2).mono ?_; rintro e w10 ⟨v6, rfl, hR6, hb6⟩; have HR10 := Aside0.mk (Kd.R_lower hR6 HS9.out.bel.size); have HS10 := Aside0.mk (HS9.out.below hb6); clear hR6 hb6)
       go_meet
       case rel => exact ⟨HS10.out, by rw [HEQ.out]; exact HR10.out⟩
      have q1b : (y1 == 1) = false := beq_eq_false_iff_ne.mpr q1
      by_cases q2 : y1 = 2
      ·have q2b : (y1 == 2) = true := beq_iff_eq.mpr q2
       have HEQ := Aside0.mk (show attrsL y1 name = [⟨sBold, sNil⟩] from (if_neg q1).trans (if_pos q2))
       clear q1 q2
       go_wp2_with (first | ((with_reducible refine gate_dst (N := 57) rfl ?_); refine Kd.R_lit k91 _ 91 ?hg (N := 57) ?hd (xs := ([(⟨(⟨#[98, 111, 108, 100]⟩ : ByteArray), (⟨#[]⟩ : ByteArray)⟩ : S91)] : List S91)) (inner := [.string (⟨#[98, 111, 108, 100]⟩ : ByteArray), .string (⟨#[]⟩ : ByteArray)]) (ok := fun _ => True) (okp := fun _ => True) ?hr ?hp (fun _ hk => hk) trivial (Below.refl _ _) (Nat.le_refl _) (by simp) ?_; (case hd => rfl); (case hg => rfl); (case hr => first | (go_simp; done) | (go_simp; rfl)); (case hp => exact (Reps.c2 (show Kd.M k91 _ _ _ (⟨(⟨#[98, 111, 108, 100]⟩ : ByteArray), (⟨#[]⟩ : ByteArray)⟩ : S91) [.string (⟨#[98, 111, 108, 100]⟩ : ByteArray), .string (⟨#[]⟩ : ByteArray)] from (k91_mkM _ _ _ (⟨(⟨#[98, 111, 108, 100]⟩ : ByteArray), (⟨#[]⟩ : ByteArray)⟩ : S91))) (Reps.none _ _))); intro v10_ w10 hR10 hb10 hg_ hnew_; have HR10 := Aside0.mk (Kd.R_lower hR10 HS9.out.bel.size); have HS10 := Aside0.mk (HS9.out.below hb10); clear hR10 hb10 hg_ hnew_))
       go_meet
       case rel => exact ⟨HS10.out, by rw [HEQ.out]; exact HR10.out⟩
      have q2b : (y1 == 2) = false := beq_eq_false_iff_ne.mpr q2
      by_cases q3 : y1 = 3
      ·have q3b : (y1 == 3) = true := beq_iff_eq.mpr q3
       have HEQ := Aside0.mk (show attrsL y1 name = [⟨sBold, name⟩, ⟨name, sOn⟩] from (if_neg q1).trans ((if_neg q2).trans (if_pos q3)))
       clear q1 q2 q3
       go_wp2_with (first | ((with_reducible refine gate_dst (N := 64) rfl ?_); refine Kd.R_lit k91 _ 91 ?hg (N := 64) ?hd (xs := ([(⟨(⟨#[98, 111, 108, 100]⟩ : ByteArray), name⟩ : S91), (⟨name, (⟨#[111, 110]⟩ : ByteArray)⟩ : S91)] : List S91)) (inner := [.string (⟨#[98, 111, 108, 100]⟩ : ByteArray), .string name, .string name, .string (⟨#[111, 110]⟩ : ByteArray)]) (ok := fun _ => True) (okp := fun _ => True) ?hr ?hp (fun _ hk => hk) trivial (Below.refl _ _) (Nat.le_refl _) (by simp) ?_; (case hd => rfl); (case hg => rfl); (case hr => first | (go_simp; done) | (go_simp; rfl)); (case hp => exact (Reps.c2 (show Kd.M k91 _ _ _ (⟨(⟨#[98, 111, 108, 100]⟩ : ByteArray), name⟩ : S91) [.string (⟨#[98, 111, 108, 100]⟩ : ByteArray), .string name] from (k91_mkM _ _ _ (⟨(⟨#[98, 111, 108, 100]⟩ : ByteArray), name⟩ : S91))) (Reps.c2 (show Kd.M k91 _ _ _ (⟨name, (⟨#[111, 110]⟩ : ByteArray)⟩ : S91) [.string name, .string (⟨#[111, 110]⟩ : ByteArray)] from (k91_mkM _ _ _ (⟨name, (⟨#[111, 110]⟩ : ByteArray)⟩ : S91))) (Reps.none _ _)))); intro v10_ w10 hR10 hb10 hg_ hnew_; have HR10 := Aside0.mk (Kd.R_lower hR10 HS9.out.bel.size); have HS10 := Aside0.mk (HS9.out.below hb10); clear hR10 hb10 hg_ hnew_))
       go_meet
       case rel => exact ⟨HS10.out, by rw [HEQ.out]; exact HR10.out⟩
      have q3b : (y1 == 3) = false := beq_eq_false_iff_ne.mpr q3
      have HEQ := Aside0.mk (show attrsL y1 name = [] from (if_neg q1).trans ((if_neg q2).trans (if_neg q3)))
      clear q1 q2 q3
      go_wp2
      go_meet
      case rel => exact ⟨HS9.out, by rw [HEQ.out]; exact Kd.R_nil _ _ _ _ _⟩
     case rest =>
     obtain ⟨hC0, hV0⟩ := hcut.out
     obtain ⟨at_, hat⟩ : ∃ l, l = attrsL y1 name := ⟨_, rfl⟩
     rw [← hat] at hV0 HLL
     clear hat
     obtain ⟨A12, n12, e12⟩ := Kd.R_slice hV0
     subst e12
     obtain ⟨zb, hzb⟩ : ∃ b, (z1 == 0) = b := ⟨_, rfl⟩
     rw [hzb] at HLL
     obtain ⟨Cx, hCx⟩ : ∃ l, l = Cs ++ [zb] := ⟨_, rfl⟩
     obtain ⟨Tx, hTx⟩ : ∃ l, l = Ts ++ [at_] := ⟨_, rfl⟩
     rw [← hCx, ← hTx] at HLL
     have HCX := Aside0.mk hCx
     have HTX := Aside0.mk hTx
     have HIG := Aside0.mk (show gl + (i + 1) = M + 1 ∧ rollU raw (rollU raw (rollU raw u)) ≤ 3 * (i + 1) ∧ Ax.length = i + 1 ∧ Cx.length = i + 1 ∧ Tx.length = i + 1 by
      have h1 := HI.out
      have h2 := HU3.out
      have h3 := HAX.out
      rw [hCx, hTx, List.length_append, List.length_append, List.length_singleton, List.length_singleton]
      omega)
     have HCL := Aside0.mk (show Cs.length ≤ 1048576 ∧ Ts.length ≤ 1048576 by have := HI.out; have := HM.out; have := HIM.out; omega)
     have HWI := Aside0.mk (show wrap64 ((i : Int) + 1) = (i : Int) + 1 by have := HM.out; have := HIM.out; unfold wrap64; omega)
     have HC := Aside0.mk hC0.drew
     have HV := Aside0.mk (Kd.R_drew hV0)
     clear hC0 hV0 hCx hTx hcut HS9 HS8
     go_upto_region 22 with (fail)
     refine start_ (n := 16) (S := fun w' => w'.cell? ⟨ga, 1, none⟩ = some (.slice B7 Cs.length m7) ∧ w'.cell? ⟨ga, 2, none⟩ = some (.slice D7 Ts.length l7)) (ds := [13, 15]) #[false, false, false, false, false, false, false, false, false, false, false, false, false, false, false, false] (by kernel_rfl) rfl rfl ⟨((blk_cell HC.out.bk 1).trans rfl), ((blk_cell HC.out.bk 2).trans rfl)⟩ (fun hHeld => ?_)
     refine pure_ (i := 0) (N := some 65) (v := ?_) (a' := ?_) (bm 1 16) rfl rfl (by kernel_rfl) (fun _ _ _ h => h) (Or.inl ⟨by rfl, ?_⟩) ?_ ?_
     rotate_left
     ·intro w'
      go_simp
      with_reducible rfl
     rotate_left
     ·simp only [Act.put, sA, sB, sC, i64_w, i32_w]
      rfl
     refine pure_ (i := 2) (N := some 67) (v := ?_) (a' := ?_) (bm 5 16) rfl rfl (by kernel_rfl) (fun _ _ _ h => h) (Or.inl ⟨by rfl, ?_⟩) ?_ ?_
     rotate_left
     ·intro w'
      go_simp
      with_reducible rfl
     rotate_left
     ·simp only [Act.put, sA, sB, sC, i64_w, i32_w]
      rfl
     refine pure_ (i := 7) (N := some 72) (v := ?_) (a' := ?_) (bm 133 16) rfl rfl (by kernel_rfl) (fun _ _ _ h => h) (Or.inl ⟨by rfl, ?_⟩) ?_ ?_
     rotate_left
     ·intro w'
      go_simp
      with_reducible rfl
     rotate_left
     ·simp only [Act.put, sA, sB, sC, i64_w, i32_w]
      rfl
     refine pure_ (i := 9) (N := some 74) (v := ?_) (a' := ?_) (bm 645 16) rfl rfl (by kernel_rfl) (fun _ _ _ h => h) (Or.inl ⟨by rfl, ?_⟩) ?_ ?_
     rotate_left
     ·intro w'
      go_simp
      with_reducible rfl
     rotate_left
     ·simp only [Act.put, sA, sB, sC, i64_w, i32_w]
      rfl
     refine take_ (i := 1) (N := some 66) (v := ?_) (a' := ?_) (bm 647 16) rfl rfl (by kernel_rfl) (fun _ _ _ h => h) (Or.inl ⟨by rfl, ?_⟩) hHeld ?_ ?_
     rotate_left
     ·rintro w' ⟨s0, s1⟩
      go_simp
      with_reducible rfl
     rotate_left
     ·simp only [Act.put, sA, sB, sC, i64_w, i32_w]
      rfl
     refine take_ (i := 8) (N := some 73) (v := ?_) (a' := ?_) (bm 903 16) rfl rfl (by kernel_rfl) (fun _ _ _ h => h) (Or.inl ⟨by rfl, ?_⟩) hHeld ?_ ?_
     rotate_left
     ·rintro w' ⟨s0, s1⟩
      go_simp
      with_reducible rfl
     rotate_left
     ·simp only [Act.put, sA, sB, sC, i64_w, i32_w]
      rfl
     refine join_ (σ := Value × Value × Value) 4 (bm 6143 16) (fun s_ => [(68, .int .i64 z1), (69, .bool zb), (70, s_.1), (71, s_.2.1), (75, s_.2.2), (77, .pointer (some ⟨ga, 1, none⟩))]) (fun s_ w' => (w'.cell? ⟨ga, 1, none⟩ = some (.slice B7 Cs.length m7) ∧ w'.cell? ⟨ga, 2, none⟩ = some (.slice D7 Ts.length l7)) ∧ (ChS w ga gd raw (rollU raw (rollU raw (rollU raw u))) Ax Cx Ts (.slice A7 Ax.length n7) (.slice B7 Cs.length m7) (.slice D7 Ts.length l7) (.slice A7 Ax.length n7) (s_.2.1) (.slice D7 Ts.length l7) (.slice none 0 0) w') ∧ (Kd.R (Kd.slice 91 k91) 24 w' w.heap.size (fun _ => True) s_.2.2 [at_])) ?_ ?_
     rotate_left
     ·intro hCont
      refine two_ (i := 3) (j := 10) (Ni := some 68) (Nj := some 75) (bm 911 16) (bm 1927 16) rfl rfl rfl rfl (by kernel_rfl) (by decide) (by decide) (fun K hK => ?_) (fun K hK => ?_)
      ·skip
       refine goes_ Try.func40 (by kernel_rfl) rfl #[.pointer (some ⟨gd, 0, none⟩), .int .i64 8] (by rfl) rfl rfl (by simp only [List.map_toArray, List.map_cons, List.map_nil]; rfl) ?_
       with_reducible refine (HC.out.roll_calls (by have := HU2.out; have := HIM.out; have := HM.out; omega) HZ1.out).mono ?_
       rintro e w3_ ⟨rfl, hJ, hfr, hsz⟩
       refine ⟨_, rfl, ?_⟩
       obtain ⟨csd, hgd⟩ := HC.out.dice.typed
       have HV := Aside0.mk (r_keep HV.out hgd (by decide) hfr)
       have HC := Aside0.mk hJ
       clear hJ hfr hsz hgd
       refine hK.out _ _ ⟨((blk_cell HC.out.bk 1).trans rfl), ((blk_cell HC.out.bk 2).trans rfl)⟩ (fun hHeld => ?_)
       clear hK K
       refine norm_ (a' := ?_) ?_ ?_
       rotate_left
       ·show Act.put _ (some 68) _ = _
        simp only [Act.put, sA, sB, sC, i64_w, i32_w]
        rfl
       refine pure_ (i := 4) (N := some 69) (v := ?_) (a' := ?_) (bm 927 16) rfl rfl (by kernel_rfl) (fun _ _ _ h => h) (Or.inl ⟨by rfl, ?_⟩) ?_ ?_
       rotate_left
       ·intro w'
        go_simp
        with_reducible rfl
       rotate_left
       ·simp only [Act.put, sA, sB, sC, i64_w, i32_w]
        rfl
       refine two_ (i := 5) (j := 10) (Ni := some 70) (Nj := some 75) (bm 959 16) (bm 1951 16) rfl rfl rfl rfl (by kernel_rfl) (by decide) (by decide) (fun K hK => ?_) (fun K hK => ?_)
       ·skip
        refine Kd.R_lit_step Kd.bool (w0 := w) w.heap.size 4 (by rfl) (N := 70) rfl (xs := [zb]) (inner := [.bool zb]) (ok := fun _ => True) (okp := fun _ => True) ?hr ?hp (fun _ hk => hk) trivial HC.out.bel HC.out.bel.size (by simp) ?_
        case hr => first | (go_simp; done) | (go_simp; rfl)
        case hp => exact Reps.one rfl (Reps.none _ _)
        intro v5_ w5_ hR hB hg hn
        have HC := Aside0.mk (HC.out.made hg hB)
        have HV := Aside0.mk (Kd.R_grown HV.out hg (fun _ _ => by simp))
        obtain ⟨A5, c5, e5⟩ : ∃ A c, v5_ = .slice A 1 c := Kd.R_slice hR
        subst e5
        have H5 := Aside0.mk hR
        clear hR hB hg hn
        refine hK.out _ _ ⟨((blk_cell HC.out.bk 1).trans rfl), ((blk_cell HC.out.bk 2).trans rfl)⟩ (fun hHeld => ?_)
        clear hK K
        refine norm_ (a' := ?_) ?_ ?_
        rotate_left
        ·show Act.put _ (some 70) _ = _
         simp only [Act.put, sA, sB, sC, i64_w, i32_w]
         rfl
        refine two_ (i := 6) (j := 10) (Ni := some 71) (Nj := some 75) (bm 1023 16) (bm 1983 16) rfl rfl rfl rfl (by kernel_rfl) (by decide) (by decide) (fun K hK => ?_) (fun K hK => ?_)
        ·skip
         refine Kd.R_append_rows_step Kd.bool (w0 := w) w.heap.size (by rfl) (.tmp 66) (.tmp 70) 54 4 (.bool false) 1 rfl Try.underlying54 info4 rfl (by decide) (by decide) (.slice B7 Cs.length m7) Cs [zb] A5 1 c5 (fun _ => True) (fun _ => False) rfl rfl HC.out.rB (r_readsM H5.out) (fun _ _ h => h) (fun _ h => h.elim) (fun _ _ => trivial) HC.out.bel HC.out.bel.size (by have := HCL.out; omega) ?_
         intro v6_ w6_ hR hB hg hat
         have HV := Aside0.mk (r_other HV.out HC.out.rB (by decide) hg)
         rw [← HCX.out] at hR
         have HC := Aside0.mk (HC.out.appB hR hg hB)
         clear hR hB hg hat
         refine hK.out _ _ ⟨((blk_cell HC.out.bk 1).trans rfl), ((blk_cell HC.out.bk 2).trans rfl)⟩ (fun hHeld => ?_)
         clear hK K
         refine norm_ (a' := ?_) ?_ ?_
         rotate_left
         ·show Act.put _ (some 71) _ = _
          simp only [Act.put, sA, sB, sC, i64_w, i32_w]
          rfl
         refine pure_ (i := 12) (N := some 77) (v := ?_) (a' := ?_) (bm 5119 16) rfl rfl (by kernel_rfl) (fun _ _ _ h => h) (Or.inl ⟨by rfl, ?_⟩) ?_ ?_
         rotate_left
         ·intro w'
          go_simp
          with_reducible rfl
         rotate_left
         ·simp only [Act.put, sA, sB, sC, i64_w, i32_w]
          rfl
         refine one_ (i := 10) (N := some 75) (bm 6143 16) rfl rfl (by kernel_rfl) (by decide) (fun K hK => ?_)
         refine Kd.R_lit_step (Kd.slice 91 k91) (w0 := w) w.heap.size 24 (by rfl) (N := 75) rfl (xs := [at_]) (inner := [.slice A12 at_.length n12]) (ok := fun _ => True) (okp := fun _ => True) ?hr ?hp (fun _ hk => hk) trivial HC.out.bel HC.out.bel.size (by simp) ?_
         case hr => first | (go_simp; done) | (go_simp; rfl)
         case hp => exact Reps.one ⟨_, rfl, HV.out⟩ (Reps.none _ _)
         intro v10_ w10_ hR hB hg hn
         have HC := Aside0.mk (HC.out.made hg hB)
         obtain ⟨A10, c10, e10⟩ : ∃ A c, v10_ = .slice A 1 c := Kd.R_slice hR
         subst e10
         have HV := Aside0.mk hR
         clear hR hB hg hn
         refine hK.out _ _ ⟨((blk_cell HC.out.bk 1).trans rfl), ((blk_cell HC.out.bk 2).trans rfl)⟩ (fun hHeld => ?_)
         clear hK K
         refine norm_ (a' := ?_) ?_ ?_
         rotate_left
         ·show Act.put _ (some 75) _ = _
          simp only [Act.put, sA, sB, sC, i64_w, i32_w]
          rfl
         exact norm_ (by simp only [putAll, Act.put, sA, sB, sC]) (hCont (.slice A5 1 c5, v6_, .slice A10 1 c10) _ ⟨hHeld, HC.out, HV.out⟩)
        ·skip
         refine Kd.R_lit_step (Kd.slice 91 k91) (w0 := w) w.heap.size 24 (by rfl) (N := 75) rfl (xs := [at_]) (inner := [.slice A12 at_.length n12]) (ok := fun _ => True) (okp := fun _ => True) ?hr ?hp (fun _ hk => hk) trivial HC.out.bel HC.out.bel.size (by simp) ?_
         case hr => first | (go_simp; done) | (go_simp; rfl)
         case hp => exact Reps.one ⟨_, rfl, HV.out⟩ (Reps.none _ _)
         intro v10_ w10_ hR hB hg hn
         have HC := Aside0.mk (HC.out.made hg hB)
         have H5 := Aside0.mk (Kd.R_grown H5.out hg (fun _ _ => by simp))
         obtain ⟨A10, c10, e10⟩ : ∃ A c, v10_ = .slice A 1 c := Kd.R_slice hR
         subst e10
         have HV := Aside0.mk hR
         clear hR hB hg hn
         refine hK.out _ _ ⟨((blk_cell HC.out.bk 1).trans rfl), ((blk_cell HC.out.bk 2).trans rfl)⟩ (fun hHeld => ?_)
         clear hK K
         refine norm_ (a' := ?_) ?_ ?_
         rotate_left
         ·show Act.put _ (some 75) _ = _
          simp only [Act.put, sA, sB, sC, i64_w, i32_w]
          rfl
         refine one_ (i := 6) (N := some 71) (bm 2047 16) rfl rfl (by kernel_rfl) (by decide) (fun K hK => ?_)
         refine Kd.R_append_rows_step Kd.bool (w0 := w) w.heap.size (by rfl) (.tmp 66) (.tmp 70) 54 4 (.bool false) 1 rfl Try.underlying54 info4 rfl (by decide) (by decide) (.slice B7 Cs.length m7) Cs [zb] A5 1 c5 (fun _ => True) (fun _ => False) rfl rfl HC.out.rB (r_readsM H5.out) (fun _ _ h => h) (fun _ h => h.elim) (fun _ _ => trivial) HC.out.bel HC.out.bel.size (by have := HCL.out; omega) ?_
         intro v6_ w6_ hR hB hg hat
         have HV := Aside0.mk (r_other HV.out HC.out.rB (by decide) hg)
         rw [← HCX.out] at hR
         have HC := Aside0.mk (HC.out.appB hR hg hB)
         clear hR hB hg hat
         refine hK.out _ _ ⟨((blk_cell HC.out.bk 1).trans rfl), ((blk_cell HC.out.bk 2).trans rfl)⟩ (fun hHeld => ?_)
         clear hK K
         refine norm_ (a' := ?_) ?_ ?_
         rotate_left
         ·show Act.put _ (some 71) _ = _
          simp only [Act.put, sA, sB, sC, i64_w, i32_w]
          rfl
         refine pure_ (i := 12) (N := some 77) (v := ?_) (a' := ?_) (bm 6143 16) rfl rfl (by kernel_rfl) (fun _ _ _ h => h) (Or.inl ⟨by rfl, ?_⟩) ?_ ?_
         rotate_left
         ·intro w'
          go_simp
          with_reducible rfl
         rotate_left
         ·simp only [Act.put, sA, sB, sC, i64_w, i32_w]
          rfl
         exact norm_ (by simp only [putAll, Act.put, sA, sB, sC]) (hCont (.slice A5 1 c5, v6_, .slice A10 1 c10) _ ⟨hHeld, HC.out, HV.out⟩)
       ·skip
        refine Kd.R_lit_step (Kd.slice 91 k91) (w0 := w) w.heap.size 24 (by rfl) (N := 75) rfl (xs := [at_]) (inner := [.slice A12 at_.length n12]) (ok := fun _ => True) (okp := fun _ => True) ?hr ?hp (fun _ hk => hk) trivial HC.out.bel HC.out.bel.size (by simp) ?_
        case hr => first | (go_simp; done) | (go_simp; rfl)
        case hp => exact Reps.one ⟨_, rfl, HV.out⟩ (Reps.none _ _)
        intro v10_ w10_ hR hB hg hn
        have HC := Aside0.mk (HC.out.made hg hB)
        obtain ⟨A10, c10, e10⟩ : ∃ A c, v10_ = .slice A 1 c := Kd.R_slice hR
        subst e10
        have HV := Aside0.mk hR
        clear hR hB hg hn
        refine hK.out _ _ ⟨((blk_cell HC.out.bk 1).trans rfl), ((blk_cell HC.out.bk 2).trans rfl)⟩ (fun hHeld => ?_)
        clear hK K
        refine norm_ (a' := ?_) ?_ ?_
        rotate_left
        ·show Act.put _ (some 75) _ = _
         simp only [Act.put, sA, sB, sC, i64_w, i32_w]
         rfl
        refine one_ (i := 5) (N := some 70) (bm 1983 16) rfl rfl (by kernel_rfl) (by decide) (fun K hK => ?_)
        refine Kd.R_lit_step Kd.bool (w0 := w) w.heap.size 4 (by rfl) (N := 70) rfl (xs := [zb]) (inner := [.bool zb]) (ok := fun _ => True) (okp := fun _ => True) ?hr ?hp (fun _ hk => hk) trivial HC.out.bel HC.out.bel.size (by simp) ?_
        case hr => first | (go_simp; done) | (go_simp; rfl)
        case hp => exact Reps.one rfl (Reps.none _ _)
        intro v5_ w5_ hR hB hg hn
        have HC := Aside0.mk (HC.out.made hg hB)
        have HV := Aside0.mk (Kd.R_grown HV.out hg (fun _ _ => by simp))
        obtain ⟨A5, c5, e5⟩ : ∃ A c, v5_ = .slice A 1 c := Kd.R_slice hR
        subst e5
        have H5 := Aside0.mk hR
        clear hR hB hg hn
        refine hK.out _ _ ⟨((blk_cell HC.out.bk 1).trans rfl), ((blk_cell HC.out.bk 2).trans rfl)⟩ (fun hHeld => ?_)
        clear hK K
        refine norm_ (a' := ?_) ?_ ?_
        rotate_left
        ·show Act.put _ (some 70) _ = _
         simp only [Act.put, sA, sB, sC, i64_w, i32_w]
         rfl
        refine one_ (i := 6) (N := some 71) (bm 2047 16) rfl rfl (by kernel_rfl) (by decide) (fun K hK => ?_)
        refine Kd.R_append_rows_step Kd.bool (w0 := w) w.heap.size (by rfl) (.tmp 66) (.tmp 70) 54 4 (.bool false) 1 rfl Try.underlying54 info4 rfl (by decide) (by decide) (.slice B7 Cs.length m7) Cs [zb] A5 1 c5 (fun _ => True) (fun _ => False) rfl rfl HC.out.rB (r_readsM H5.out) (fun _ _ h => h) (fun _ h => h.elim) (fun _ _ => trivial) HC.out.bel HC.out.bel.size (by have := HCL.out; omega) ?_
        intro v6_ w6_ hR hB hg hat
        have HV := Aside0.mk (r_other HV.out HC.out.rB (by decide) hg)
        rw [← HCX.out] at hR
        have HC := Aside0.mk (HC.out.appB hR hg hB)
        clear hR hB hg hat
        refine hK.out _ _ ⟨((blk_cell HC.out.bk 1).trans rfl), ((blk_cell HC.out.bk 2).trans rfl)⟩ (fun hHeld => ?_)
        clear hK K
        refine norm_ (a' := ?_) ?_ ?_
        rotate_left
        ·show Act.put _ (some 71) _ = _
         simp only [Act.put, sA, sB, sC, i64_w, i32_w]
         rfl
        refine pure_ (i := 12) (N := some 77) (v := ?_) (a' := ?_) (bm 6143 16) rfl rfl (by kernel_rfl) (fun _ _ _ h => h) (Or.inl ⟨by rfl, ?_⟩) ?_ ?_
        rotate_left
        ·intro w'
         go_simp
         with_reducible rfl
        rotate_left
        ·simp only [Act.put, sA, sB, sC, i64_w, i32_w]
         rfl
        exact norm_ (by simp only [putAll, Act.put, sA, sB, sC]) (hCont (.slice A5 1 c5, v6_, .slice A10 1 c10) _ ⟨hHeld, HC.out, HV.out⟩)
      ·skip
       refine Kd.R_lit_step (Kd.slice 91 k91) (w0 := w) w.heap.size 24 (by rfl) (N := 75) rfl (xs := [at_]) (inner := [.slice A12 at_.length n12]) (ok := fun _ => True) (okp := fun _ => True) ?hr ?hp (fun _ hk => hk) trivial HC.out.bel HC.out.bel.size (by simp) ?_
       case hr => first | (go_simp; done) | (go_simp; rfl)
       case hp => exact Reps.one ⟨_, rfl, HV.out⟩ (Reps.none _ _)
       intro v10_ w10_ hR hB hg hn
       have HC := Aside0.mk (HC.out.made hg hB)
       obtain ⟨A10, c10, e10⟩ : ∃ A c, v10_ = .slice A 1 c := Kd.R_slice hR
       subst e10
       have HV := Aside0.mk hR
       clear hR hB hg hn
       refine hK.out _ _ ⟨((blk_cell HC.out.bk 1).trans rfl), ((blk_cell HC.out.bk 2).trans rfl)⟩ (fun hHeld => ?_)
       clear hK K
       refine norm_ (a' := ?_) ?_ ?_
       rotate_left
       ·show Act.put _ (some 75) _ = _
        simp only [Act.put, sA, sB, sC, i64_w, i32_w]
        rfl
       refine one_ (i := 3) (N := some 68) (bm 1935 16) rfl rfl (by kernel_rfl) (by decide) (fun K hK => ?_)
       refine goes_ Try.func40 (by kernel_rfl) rfl #[.pointer (some ⟨gd, 0, none⟩), .int .i64 8] (by rfl) rfl rfl (by simp only [List.map_toArray, List.map_cons, List.map_nil]; rfl) ?_
       with_reducible refine (HC.out.roll_calls (by have := HU2.out; have := HIM.out; have := HM.out; omega) HZ1.out).mono ?_
       rintro e w3_ ⟨rfl, hJ, hfr, hsz⟩
       refine ⟨_, rfl, ?_⟩
       obtain ⟨csd, hgd⟩ := HC.out.dice.typed
       have HV := Aside0.mk (r_keep HV.out hgd (by decide) hfr)
       have HC := Aside0.mk hJ
       clear hJ hfr hsz hgd
       refine hK.out _ _ ⟨((blk_cell HC.out.bk 1).trans rfl), ((blk_cell HC.out.bk 2).trans rfl)⟩ (fun hHeld => ?_)
       clear hK K
       refine norm_ (a' := ?_) ?_ ?_
       rotate_left
       ·show Act.put _ (some 68) _ = _
        simp only [Act.put, sA, sB, sC, i64_w, i32_w]
        rfl
       refine pure_ (i := 4) (N := some 69) (v := ?_) (a' := ?_) (bm 1951 16) rfl rfl (by kernel_rfl) (fun _ _ _ h => h) (Or.inl ⟨by rfl, ?_⟩) ?_ ?_
       rotate_left
       ·intro w'
        go_simp
        with_reducible rfl
       rotate_left
       ·simp only [Act.put, sA, sB, sC, i64_w, i32_w]
        rfl
       refine one_ (i := 5) (N := some 70) (bm 1983 16) rfl rfl (by kernel_rfl) (by decide) (fun K hK => ?_)
       refine Kd.R_lit_step Kd.bool (w0 := w) w.heap.size 4 (by rfl) (N := 70) rfl (xs := [zb]) (inner := [.bool zb]) (ok := fun _ => True) (okp := fun _ => True) ?hr ?hp (fun _ hk => hk) trivial HC.out.bel HC.out.bel.size (by simp) ?_
       case hr => first | (go_simp; done) | (go_simp; rfl)
       case hp => exact Reps.one rfl (Reps.none _ _)
       intro v5_ w5_ hR hB hg hn
       have HC := Aside0.mk (HC.out.made hg hB)
       have HV := Aside0.mk (Kd.R_grown HV.out hg (fun _ _ => by simp))
       obtain ⟨A5, c5, e5⟩ : ∃ A c, v5_ = .slice A 1 c := Kd.R_slice hR
       subst e5
       have H5 := Aside0.mk hR
       clear hR hB hg hn
       refine hK.out _ _ ⟨((blk_cell HC.out.bk 1).trans rfl), ((blk_cell HC.out.bk 2).trans rfl)⟩ (fun hHeld => ?_)
       clear hK K
       refine norm_ (a' := ?_) ?_ ?_
       rotate_left
       ·show Act.put _ (some 70) _ = _
        simp only [Act.put, sA, sB, sC, i64_w, i32_w]
        rfl
       refine one_ (i := 6) (N := some 71) (bm 2047 16) rfl rfl (by kernel_rfl) (by decide) (fun K hK => ?_)
       refine Kd.R_append_rows_step Kd.bool (w0 := w) w.heap.size (by rfl) (.tmp 66) (.tmp 70) 54 4 (.bool false) 1 rfl Try.underlying54 info4 rfl (by decide) (by decide) (.slice B7 Cs.length m7) Cs [zb] A5 1 c5 (fun _ => True) (fun _ => False) rfl rfl HC.out.rB (r_readsM H5.out) (fun _ _ h => h) (fun _ h => h.elim) (fun _ _ => trivial) HC.out.bel HC.out.bel.size (by have := HCL.out; omega) ?_
       intro v6_ w6_ hR hB hg hat
       have HV := Aside0.mk (r_other HV.out HC.out.rB (by decide) hg)
       rw [← HCX.out] at hR
       have HC := Aside0.mk (HC.out.appB hR hg hB)
       clear hR hB hg hat
       refine hK.out _ _ ⟨((blk_cell HC.out.bk 1).trans rfl), ((blk_cell HC.out.bk 2).trans rfl)⟩ (fun hHeld => ?_)
       clear hK K
       refine norm_ (a' := ?_) ?_ ?_
       rotate_left
       ·show Act.put _ (some 71) _ = _
        simp only [Act.put, sA, sB, sC, i64_w, i32_w]
        rfl
       refine pure_ (i := 12) (N := some 77) (v := ?_) (a' := ?_) (bm 6143 16) rfl rfl (by kernel_rfl) (fun _ _ _ h => h) (Or.inl ⟨by rfl, ?_⟩) ?_ ?_
       rotate_left
       ·intro w'
        go_simp
        with_reducible rfl
       rotate_left
       ·simp only [Act.put, sA, sB, sC, i64_w, i32_w]
        rfl
       exact norm_ (by simp only [putAll, Act.put, sA, sB, sC]) (hCont (.slice A5 1 c5, v6_, .slice A10 1 c10) _ ⟨hHeld, HC.out, HV.out⟩)
     rintro ⟨v70_, v71_, v75_⟩ w12_ ⟨hS_, hC_, hV_⟩
     replace hC_ : ChS w ga gd raw (rollU raw (rollU raw (rollU raw u))) Ax Cx Ts (.slice A7 Ax.length n7) (.slice B7 Cs.length m7) (.slice D7 Ts.length l7) (.slice A7 Ax.length n7) (v71_) (.slice D7 Ts.length l7) (.slice none 0 0) w12_ := hC_
     replace hV_ : Kd.R (Kd.slice 91 k91) 24 w12_ w.heap.size (fun _ => True) v75_ [at_] := hV_
     clear HC HV
     obtain ⟨A10, c10, e10⟩ : ∃ A c, v75_ = .slice A 1 c := Kd.R_slice hV_
     subst e10
     obtain ⟨A6, n6, e6⟩ := Kd.R_slice hC_.rB
     subst e6
     have HC := Aside0.mk hC_
     have HV := Aside0.mk hV_
     have hHeld : w12_.cell? ⟨ga, 1, none⟩ = some (.slice B7 Cs.length m7) ∧ w12_.cell? ⟨ga, 2, none⟩ = some (.slice D7 Ts.length l7) := hS_
     clear hS_ hC_ hV_
     refine norm_ (a' := ?_) ?_ ?_
     rotate_left
     ·simp only [putAll, Act.put, sA, sB, sC]
      rfl
     refine one_ (i := 11) (N := some 76) (bm 8191 16) rfl rfl (by kernel_rfl) (by decide) (fun K hK => ?_)
     refine Kd.R_append_rows_step (Kd.slice 91 k91) (w0 := w) w.heap.size (by rfl) (.tmp 73) (.tmp 75) 101 24 (.slice none 0 0) 24 rfl Try.underlying101 info24 rfl (by decide) (by decide) (.slice D7 Ts.length l7) Ts [at_] A10 1 c10 (fun _ => True) (fun k => (True ∧ some k ≠ (Value.slice A10 1 c10).ownBlock) ∧ some k ≠ (Value.slice D7 Ts.length l7).ownBlock) rfl rfl HC.out.rC (r_readsM HV.out) (fun _ _ h => m_apart h HC.out.rC (by decide)) (fun _ hk => ⟨trivial, hk.2⟩) (fun _ _ => trivial) HC.out.bel HC.out.bel.size (by have := HCL.out; omega) ?_
     intro v11_ w11_ hR hB hg hat
     rw [← HTX.out] at hR
     obtain ⟨A11, n11, e11⟩ := Kd.R_slice hR
     subst e11
     have HC := Aside0.mk (HC.out.appC hR hg hB)
     have hd1 : w11_.cell? ⟨ga, 1, none⟩ = some _ := (blk_cell HC.out.bk 1).trans rfl
     have hf1 := blk_frozen HC.out.bk 1
     clear hR hB hg hat
     refine hK.out _ _ ⟨((blk_cell HC.out.bk 1).trans rfl), ((blk_cell HC.out.bk 2).trans rfl)⟩ (fun hHeld => ?_)
     clear hK K
     refine norm_ (a' := ?_) ?_ ?_
     rotate_left
     ·show Act.put _ (some 76) _ = _
      simp only [Act.put, sA, sB, sC, i64_w, i32_w]
      rfl
     refine last_ (i := 13) (N := none) (bm 16383 16) rfl rfl (by kernel_rfl) (by decide) (fun K hK => ?_)
     refine skip_ (w1 := ?_) (by rfl) rfl ?_ ?_
     rotate_left
     ·go_simp
      rfl
     have HC := Aside0.mk (HC.out.set 1 (.slice A6 Cx.length n6) (.slice A7 Ax.length n7) (.slice A6 Cx.length n6) (.slice D7 Ts.length l7) rfl)
     have hd2 := (blk_cell HC.out.bk 2).trans rfl
     have hf2 := blk_frozen HC.out.bk 2
     refine hK.out _ _ ?_
     clear hK K
     refine pure_ (i := 14) (N := some 78) (v := ?_) (a' := ?_) (bm 32767 16) rfl rfl (by kernel_rfl) (fun _ _ _ h => h) (Or.inl ⟨by rfl, ?_⟩) ?_ ?_
     rotate_left
     ·intro w'
      go_simp
      with_reducible rfl
     rotate_left
     ·simp only [Act.put, sA, sB, sC, i64_w, i32_w]
      rfl
     refine last_ (i := 15) (N := none) (bm 65535 16) rfl rfl (by kernel_rfl) (by decide) (fun K hK => ?_)
     refine skip_ (w1 := ?_) (by rfl) rfl ?_ ?_
     rotate_left
     ·go_simp
      rfl
     have HC := Aside0.mk (HC.out.set 2 (.slice A11 Tx.length n11) (.slice A7 Ax.length n7) (.slice A6 Cx.length n6) (.slice A11 Tx.length n11) rfl)
     refine hK.out _ _ ?_
     clear hK K
     refine done_ (by kernel_rfl) ?_
     have wk := HWI.out
     go_wp2
     go_roundg gl
     case measure => omega
     case rel => exact ⟨i + 1, _, Ax, Cx, Tx, _, _, _, by simp [wk], HIG, HC, HLL⟩
end Go.Proofs.Ytlcodfjlbhjkbaa.PDelta
end

/- Parts of the proof of Diff: nothing is claimed here by itself. -/
import Derived.Test.YtdgemabmmomebaaKDiff2
import Derived.StillTailTactics
set_option linter.unusedVariables false
set_option linter.unusedSimpArgs false
section
namespace Go.Proofs.Ytdgemabmmomebaa.PDelta
open Go.RowKit Go.Proofs.YtdgemabmmomebaaW.PrintWords Go.Proofs.YtdgemabmmomebaaW.PrintLast Go.Proofs.YtdgemabmmomebaaW.PrintMore
attribute [local go_sem] max2_int min2_int max_two min_two max_three min_three max_four min_four
attribute [local go_sem high] Go.Proofs.Ytdgemabmmomebaa.Ord.leq_str Go.Proofs.Ytdgemabmmomebaa.Ord.gtr_str Go.Proofs.Ytdgemabmmomebaa.Ord.geq_str
attribute [local go_sem high] eqA38
def delta_Raw.l0 : Nat → List (S84) → List (S84) → List (S70) → Int → Int → Option ((List (S84)))
 | 0, _, _, _, _, _ => none
 | k + 1, x0, x5, x8, x9, x10 => if x10 < x9 then (if 0 ≤ x10 then (if x10 < (x8.length : Int) then (if ((rd_T70 x8 x10).f0) = 0 then (if 0 ≤ ((rd_T70 x8 x10).f1) then (if ((rd_T70 x8 x10).f1) ≤ (x0.length : Int) then ((delta_changed.f k (x0.take (((rd_T70 x8 x10).f1) : Int).toNat) ((rd_T70 x8 x10).f2)).bind fun t162 => (if x5.length + t162.length < 3518437208883 then (delta_Raw.l0 k (x0.drop (((rd_T70 x8 x10).f1) : Int).toNat) (x5 ++ t162) x8 x9 (wrap64 (x10 + 1))) else (none))) else (none)) else (none)) else (if ((rd_T70 x8 x10).f0) = 1 then ((flow_Copy.f k ((rd_T70 x8 x10).f3)).bind fun t173 => (if x5.length + t173.length < 3518437208883 then (delta_Raw.l0 k x0 (x5 ++ t173) x8 x9 (wrap64 (x10 + 1))) else (none))) else (if 0 ≤ ((rd_T70 x8 x10).f1) then (if ((rd_T70 x8 x10).f1) ≤ (x0.length : Int) then (delta_Raw.l0 k (x0.drop (((rd_T70 x8 x10).f1) : Int).toNat) x5 x8 x9 (wrap64 (x10 + 1))) else (none)) else (none)))) else (none)) else (none)) else (some x5)
def delta_Raw.f (k : Nat) (l0 : List (S84)) (l1 : List (S70)) : Option ((List (S84))) := delta_Raw.l0 k l0 ([] : List (S84)) l1 (l1.length : Int) 0
def delta_Raw.T8 : Bool × List (List Nat × List Nat) := (true, [([], []), ([], []), ([], []), ([2], [2]), ([1, 3], [1, 3]), ([], []), ([5], [5]), ([4, 6], [4, 6]), ([0, 7, 7], [0, 7]), ([8, 8, 0, 1, 2, 3, 4, 5, 6, 7, 8], [0, 8])])
def delta_Raw.B8 : List Nat := [0, 0, 0, 4, 14, 0, 32, 126, 255, 511]
theorem delta_Raw.tab8 : rtab .any (opsOf Try.f91 8) = delta_Raw.T8 := by kernel_rfl
theorem delta_Raw.bits8 : waitsOk delta_Raw.T8.2 delta_Raw.B8 = true := by kernel_rfl
set_option maxHeartbeats 8000000 in
set_option maxRecDepth 100000 in
theorem delta_Raw.calls (k : Nat) (P0_ : Nat → Prop) (A0 : Option Addr) (c0 : Nat) (l0 : List (S84)) (A1 : Option Addr) (c1 : Nat) (l1 : List (S70)) (r : List (S84)) (w : World) (hs0 : Kd.V k84 84 w w.heap.size (fun k_ => P0_ k_) (.slice A0 l0.length c0) l0) (hr1 : Kd.C k70 w A1 l1.length l1) (hc1 : l1.length ≤ c1) (h : delta_Raw.f k l0 l1 = some r) :
  Calls Try.prog 91 #[.slice A0 l0.length c0, .slice A1 l1.length c1] w fun e w' => ∃ v0_ : Value, e = .returned (v0_) ∧ Kd.N k84 84 w' w.heap.size (fun k_ => (P0_ k_ ∨ w.heap.size ≤ k_)) v0_ r ∧ Below w.heap.size w w' := by
 have hu70 := Try.underlying70
 have HO0 := Aside0.mk (show Kd.V k84 84 w w.heap.size (fun k_ => (P0_ k_ ∨ w.heap.size ≤ k_)) (.slice A0 l0.length c0) l0 from Kd.V_mono hs0 (fun k_ hk => .inl hk))
 have HR1 := Aside0.mk hr1
 have HC1 := Aside0.mk hc1
 clear hr1 hc1
 have HB := Aside0.mk (Below.refl w.heap.size w)
 have H : (delta_Raw.l0 k l0 ([] : List (S84)) l1 (l1.length : Int) 0) = some r := h
 clear h
 have H' := Aside0.mk H
 clear H
 go_enter Try.func91, Try.ntmps91
 go_wp2
 go_loopg [0, 5, 10] k (fun kq v0 v5 v10 w' => ∃ (x0_1 : List (S84)) (x5_1 : List (S84)) (x10_1 : Int), v10 = .int .i64 x10_1 ∧ Aside0 (delta_Raw.l0 kq x0_1 x5_1 l1 (l1.length : Int) x10_1 = some r) ∧ Aside0 (kq ≤ k) ∧ Aside0 (Kd.V k84 84 w' w.heap.size (fun k_ => (P0_ k_ ∨ w.heap.size ≤ k_) ∧ some k_ ≠ (v5 : Value).ownBlock) v0 x0_1) ∧ Aside0 (Kd.N k84 84 w' w.heap.size (fun k_ => (P0_ k_ ∨ w.heap.size ≤ k_)) v5 x5_1) ∧ Aside0 (Below w.heap.size w w'))
 case atStart => exact ⟨(l0), (([] : List (S84))), (0), (by first | rfl | (simp; done) | (simp [*]; done)), H', ⟨Nat.le_refl _⟩, ⟨by (with_reducible repeat (first | apply Kd.V_alloc | apply Kd.V_drewN | apply Kd.V_drew)); exact Kd.V_mono HO0.out (fun _ hk => ⟨hk, (by simp [Value.ownBlock])⟩)⟩, ⟨by first | exact Kd.S_nil _ _ _ _ _ | exact Kd.N_nil _ _ _ _ _ | exact Kd.V_nil _ _ _ _ _ | exact Kd.Q_nil _ _ _ _ _ | exact Kd.R_nil _ _ _ _ _⟩, ⟨by repeat (first | (with_reducible first | exact HB.out | apply below_alloc | apply pw_below_drewN | apply below_drew1) | exact HB.out)⟩⟩
 case round =>
  clear H'
  try clear c1
  try clear p2
  obtain ⟨x0_1, x5_1, x10_1, rfl, HA, HK1, HO_0, HO_5, HB⟩ := hrel
  cases gk with
  | zero => exact absurd HA.out (by simp [delta_Raw.l0])
  | succ k1 =>
   have H := HA.out
   clear HA
   simp only [delta_Raw.l0] at H
   by_cases c3 : x10_1 < (l1.length : Int)
   ·rw [if_pos c3] at H
    have c3b0 : decide (x10_1 < (l1.length : Int)) = true := decide_eq_true c3
    clear c3
    by_cases c4 : 0 ≤ x10_1
    ·rw [if_pos c4] at H
     have c4b0 : decide (0 ≤ x10_1) = true := decide_eq_true c4
     clear c4
     by_cases c5 : x10_1 < (l1.length : Int)
     ·rw [if_pos c5] at H
      have c5b0 : decide (x10_1 < (l1.length : Int)) = true := decide_eq_true c5
      clear c5
      by_cases c6 : ((rd_T70 l1 x10_1).f0) = 0
      ·rw [if_pos c6] at H
       have c6b0 : (((rd_T70 l1 x10_1).f0) == 0) = true := beq_iff_eq.mpr c6
       have c6b1 : (((rd_T70 l1 x10_1).f0) != 0) = false := bne_eq_false_iff_eq.mpr c6
       clear c6
       by_cases c7 : 0 ≤ ((rd_T70 l1 x10_1).f1)
       ·rw [if_pos c7] at H
        have c7b0 := eq_true c7
        have c7b1 : decide (0 ≤ ((rd_T70 l1 x10_1).f1)) = true := decide_eq_true c7
        clear c7
        by_cases c8 : ((rd_T70 l1 x10_1).f1) ≤ (x0_1.length : Int)
        ·rw [if_pos c8] at H
         have c8b0 := eq_true c8
         have c8b1 : decide (((rd_T70 l1 x10_1).f1) ≤ (x0_1.length : Int)) = true := decide_eq_true c8
         clear c8
         obtain ⟨y157, hy157⟩ : ∃ y_ : List (S84), y_ = (x0_1.take (((rd_T70 l1 x10_1).f1) : Int).toNat) := ⟨_, rfl⟩
         replace H : ((delta_changed.f k1 y157 ((rd_T70 l1 x10_1).f2)).bind fun t162 => (if x5_1.length + t162.length < 3518437208883 then (delta_Raw.l0 k1 (x0_1.drop (((rd_T70 l1 x10_1).f1) : Int).toNat) (x5_1 ++ t162) l1 (l1.length : Int) (wrap64 (x10_1 + 1))) else (none))) = some r := by first | (rw [hy157]; with_reducible exact H) | (have H2_ := (Option.bind_some _ _).symm.trans H; rw [hy157]; with_reducible exact H2_) | (have H2_ := (Option.bind_some _ _).symm.trans H; with_reducible exact H2_) | with_reducible exact H | (rw [hy157]; exact H) | exact H
         have Ny157 := Aside0.mk hy157
         clear hy157
         replace H := Option.bind_eq_some_iff.mp H
         obtain ⟨t162, A90, H⟩ := H
         replace H : (if x5_1.length + t162.length < 3518437208883 then (delta_Raw.l0 k1 (x0_1.drop (((rd_T70 l1 x10_1).f1) : Int).toNat) (x5_1 ++ t162) l1 (l1.length : Int) (wrap64 (x10_1 + 1))) else (none)) = some r := H
         have A9 := Aside0.mk A90
         clear A90
         by_cases c10 : x5_1.length + t162.length < 3518437208883
         ·rw [if_pos c10] at H
          have LMc10 := Aside0.mk c10
          clear c10
          obtain ⟨y165, hy165⟩ : ∃ y_ : List (S84), y_ = (x5_1 ++ t162) := ⟨_, rfl⟩
          replace H : (delta_Raw.l0 k1 (x0_1.drop (((rd_T70 l1 x10_1).f1) : Int).toNat) y165 l1 (l1.length : Int) (wrap64 (x10_1 + 1))) = some r := by first | (rw [hy165]; with_reducible exact H) | (have H2_ := (Option.bind_some _ _).symm.trans H; rw [hy165]; with_reducible exact H2_) | (have H2_ := (Option.bind_some _ _).symm.trans H; with_reducible exact H2_) | with_reducible exact H | (rw [hy165]; exact H) | exact H
          have Ny165 := Aside0.mk hy165
          clear hy165
          have c11b0 := eq_true (of_decide_eq_true (by assumption) : 0 ≤ ((rd_T70 l1 x10_1).f1))
          have c12b0 := eq_true (of_decide_eq_true (by assumption) : ((rd_T70 l1 x10_1).f1) ≤ (x0_1.length : Int))
          obtain ⟨y168, hy168⟩ : ∃ y_ : List (S84), y_ = (x0_1.drop (((rd_T70 l1 x10_1).f1) : Int).toNat) := ⟨_, rfl⟩
          replace H : (delta_Raw.l0 k1 y168 y165 l1 (l1.length : Int) (wrap64 (x10_1 + 1))) = some r := by first | (rw [hy168]; with_reducible exact H) | (have H2_ := (Option.bind_some _ _).symm.trans H; rw [hy168]; with_reducible exact H2_) | (have H2_ := (Option.bind_some _ _).symm.trans H; with_reducible exact H2_) | with_reducible exact H | (rw [hy168]; exact H) | exact H
          have Ny168 := Aside0.mk hy168
          clear hy168
          have H' := Aside0.mk H
          clear H
          have p155 : 0 ≤ (x10_1 : Int) := of_decide_eq_true (by assumption)
          have q155 : x10_1 < (l1.length : Int) := of_decide_eq_true (by assumption)
          obtain ⟨ad155, A155_2, c155_2, A155_3, c155_3, e155, hx155_0, hx155_1, hx155_2, hx155_3, hl155_2, hi155_2, hl155_3, hi155_3⟩ := at_T70 HR1.out x10_1 p155 q155
          cases e155
          replace hx155_0 := (HB.out.cell (World.block_lt_of_cell? w _ hx155_0)).trans hx155_0
          replace hx155_1 := (HB.out.cell (World.block_lt_of_cell? w _ hx155_1)).trans hx155_1
          replace hx155_2 := (HB.out.cell (World.block_lt_of_cell? w _ hx155_2)).trans hx155_2
          replace hx155_3 := (HB.out.cell (World.block_lt_of_cell? w _ hx155_3)).trans hx155_3
          have HR155_2 := Aside0.mk hi155_2
          have HC155_2 := Aside0.mk hl155_2
          clear hi155_2 hl155_2
          have HR155_3 := Aside0.mk hi155_3
          have HC155_3 := Aside0.mk hl155_3
          clear hi155_3 hl155_3
          replace p155 := eq_true p155
          replace q155 := eq_true q155
          try go_wp2_with (first | ((with_reducible refine gate_dst (N := 7) rfl ?_); refine box_event ?hg (N := 7) ?hd (cs := #[.int .i64 0, .int .i64 0, .slice none 0 0, .slice none 0 0]) (t := 70) ?hr ?_; (case hd => rfl); (case hg => rfl); (case hr => first | (go_simp; done) | (go_simp; rfl)); intro gb156 hg w13 hbox hb; have n0_ := Aside0.mk (Kd.V_below (Kd.V_elderB (by (with_reducible repeat (first | apply Kd.V_alloc | apply Kd.V_drewN | apply Kd.V_drew)); exact HO_0.out) gb156 (Nat.le_of_eq hg.symm)) hb); have n1_ := Aside0.mk (Kd.N_below (Kd.N_elderB (by (with_reducible repeat (first | apply Kd.N_alloc | apply Kd.N_drewN | apply Kd.N_drew)); exact HO_5.out) gb156 (Nat.le_of_eq hg.symm)) hb); have n2_ := Aside0.mk (below_step (by with_reducible repeat first | exact HB.out | apply below_alloc | apply pw_below_drewN | apply below_drew1) hb); have n3_ := Aside0.mk (hbox); have n4_ := Aside0.mk ((by rw [hg]; exact (below_size (by with_reducible repeat first | exact HB.out | apply below_alloc | apply pw_below_drewN | apply below_drew1)) : w.heap.size ≤ gb156)); have n5_ := Aside0.mk ((by rw [hg]; exact (below_size (by with_reducible repeat first | exact HB.out | apply below_alloc | apply pw_below_drewN | apply below_drew1)) : w.heap.size ≤ gb156)); clear HO_0; clear HO_5; clear HB; have HO_0 := n0_; have HO_5 := n1_; have HB := n2_; have BK156 := n3_; have GW156 := n4_; have GE156 := n5_; clear n0_ n1_ n2_ n3_ n4_ n5_; clear hb hbox hg; have hcz14_0 : w13.cell? ⟨gb156, 0, none⟩ = some (.int .i64 0) := (blk_cell BK156.out 0).trans rfl; have hcz14_1 : w13.cell? ⟨gb156, 1, none⟩ = some (.int .i64 0) := (blk_cell BK156.out 1).trans rfl; have hcz14_2 : w13.cell? ⟨gb156, 2, none⟩ = some (.slice none 0 0) := (blk_cell BK156.out 2).trans rfl; have hcz14_3 : w13.cell? ⟨gb156, 3, none⟩ = some (.slice none 0 0) := (blk_cell BK156.out 3).trans rfl; have hfz14_0 := blk_frozen BK156.out 0; have hfz14_1 := blk_frozen BK156.out 1; have hfz14_2 := blk_frozen BK156.out 2; have hfz14_3 := blk_frozen BK156.out 3))
          have n0_ : Aside0 (Kd.V k84 84 ((((w13.setCell ⟨gb156, 0, none⟩ (.int .i64 ((rd_T70 l1 x10_1).f0))).setCell ⟨gb156, 1, none⟩ (.int .i64 ((rd_T70 l1 x10_1).f1))).setCell ⟨gb156, 2, none⟩ (.slice A155_2 ((rd_T70 l1 x10_1).f2).length c155_2)).setCell ⟨gb156, 3, none⟩ (.slice A155_3 ((rd_T70 l1 x10_1).f3).length c155_3)) w.heap.size (fun k_ => (P0_ k_ ∨ w.heap.size ≤ k_) ∧ some k_ ≠ (u5 : Value).ownBlock ∧ k_ ≠ gb156) u0 x0_1) := ⟨by (with_reducible repeat (first | apply Kd.V_alloc | apply Kd.V_drewN | apply Kd.V_drew)); exact Kd.V_mono (Kd.V_far (p := ⟨gb156, 3, none⟩) (Kd.V_far (p := ⟨gb156, 2, none⟩) (Kd.V_far (p := ⟨gb156, 1, none⟩) (Kd.V_far (p := ⟨gb156, 0, none⟩) (Kd.V_mono HO_0.out (fun k_ hk => (⟨hk, hk.2⟩ : _ ∧ k_ ≠ gb156))) (fun _ hk => hk.2) (.int .i64 ((rd_T70 l1 x10_1).f0))) (fun _ hk => hk.2) (.int .i64 ((rd_T70 l1 x10_1).f1))) (fun _ hk => hk.2) (.slice A155_2 ((rd_T70 l1 x10_1).f2).length c155_2)) (fun _ hk => hk.2) (.slice A155_3 ((rd_T70 l1 x10_1).f3).length c155_3)) (fun _ hk => ⟨hk.1.1.1, ⟨hk.1.1.2, hk.1.2⟩⟩)⟩
          have n1_ : Aside0 (Kd.N k84 84 ((((w13.setCell ⟨gb156, 0, none⟩ (.int .i64 ((rd_T70 l1 x10_1).f0))).setCell ⟨gb156, 1, none⟩ (.int .i64 ((rd_T70 l1 x10_1).f1))).setCell ⟨gb156, 2, none⟩ (.slice A155_2 ((rd_T70 l1 x10_1).f2).length c155_2)).setCell ⟨gb156, 3, none⟩ (.slice A155_3 ((rd_T70 l1 x10_1).f3).length c155_3)) w.heap.size (fun k_ => (P0_ k_ ∨ w.heap.size ≤ k_) ∧ k_ ≠ gb156) u5 x5_1) := ⟨by (with_reducible repeat (first | apply Kd.N_alloc | apply Kd.N_drewN | apply Kd.N_drew)); exact Kd.N_mono (Kd.N_far (p := ⟨gb156, 3, none⟩) (Kd.N_far (p := ⟨gb156, 2, none⟩) (Kd.N_far (p := ⟨gb156, 1, none⟩) (Kd.N_far (p := ⟨gb156, 0, none⟩) (Kd.N_mono HO_5.out (fun k_ hk => (⟨hk, hk.2⟩ : _ ∧ k_ ≠ gb156))) (fun _ hk => hk.2) (.int .i64 ((rd_T70 l1 x10_1).f0))) (fun _ hk => hk.2) (.int .i64 ((rd_T70 l1 x10_1).f1))) (fun _ hk => hk.2) (.slice A155_2 ((rd_T70 l1 x10_1).f2).length c155_2)) (fun _ hk => hk.2) (.slice A155_3 ((rd_T70 l1 x10_1).f3).length c155_3)) (fun _ hk => ⟨hk.1.1, hk.1.2⟩)⟩
          have n2_ : Aside0 (((((w13.setCell ⟨gb156, 0, none⟩ (.int .i64 ((rd_T70 l1 x10_1).f0))).setCell ⟨gb156, 1, none⟩ (.int .i64 ((rd_T70 l1 x10_1).f1))).setCell ⟨gb156, 2, none⟩ (.slice A155_2 ((rd_T70 l1 x10_1).f2).length c155_2)).setCell ⟨gb156, 3, none⟩ (.slice A155_3 ((rd_T70 l1 x10_1).f3).length c155_3)).heap[gb156]? = some (.cells #[.int .i64 ((rd_T70 l1 x10_1).f0), .int .i64 ((rd_T70 l1 x10_1).f1), .slice A155_2 ((rd_T70 l1 x10_1).f2).length c155_2, .slice A155_3 ((rd_T70 l1 x10_1).f3).length c155_3] 70 (0, 0))) := ⟨by (with_reducible repeat (first | refine blk_drewN ?_ _ | refine blk_drew ?_ | refine blk_alloc ?_ _)); refine blk_put (cs := #[.int .i64 ((rd_T70 l1 x10_1).f0), .int .i64 ((rd_T70 l1 x10_1).f1), .slice A155_2 ((rd_T70 l1 x10_1).f2).length c155_2, .slice none 0 0]) ?_ 3 _ rfl; (with_reducible repeat (first | refine blk_drewN ?_ _ | refine blk_drew ?_ | refine blk_alloc ?_ _)); refine blk_put (cs := #[.int .i64 ((rd_T70 l1 x10_1).f0), .int .i64 ((rd_T70 l1 x10_1).f1), .slice none 0 0, .slice none 0 0]) ?_ 2 _ rfl; (with_reducible repeat (first | refine blk_drewN ?_ _ | refine blk_drew ?_ | refine blk_alloc ?_ _)); refine blk_put (cs := #[.int .i64 ((rd_T70 l1 x10_1).f0), .int .i64 0, .slice none 0 0, .slice none 0 0]) ?_ 1 _ rfl; (with_reducible repeat (first | refine blk_drewN ?_ _ | refine blk_drew ?_ | refine blk_alloc ?_ _)); refine blk_put (cs := #[.int .i64 0, .int .i64 0, .slice none 0 0, .slice none 0 0]) ?_ 0 _ rfl; (with_reducible repeat (first | refine blk_drewN ?_ _ | refine blk_drew ?_ | refine blk_alloc ?_ _)); exact BK156.out⟩
          have n3_ : Aside0 (Below w.heap.size w ((((w13.setCell ⟨gb156, 0, none⟩ (.int .i64 ((rd_T70 l1 x10_1).f0))).setCell ⟨gb156, 1, none⟩ (.int .i64 ((rd_T70 l1 x10_1).f1))).setCell ⟨gb156, 2, none⟩ (.slice A155_2 ((rd_T70 l1 x10_1).f2).length c155_2)).setCell ⟨gb156, 3, none⟩ (.slice A155_3 ((rd_T70 l1 x10_1).f3).length c155_3))) := ⟨by repeat (first | (with_reducible first | exact HB.out | apply below_alloc | apply pw_below_drewN | apply below_drew1 | refine below_set ?_ GE156.out) | exact HB.out)⟩
          (try clear HO_0)
          (try clear HO_5)
          (try clear BK156)
          (try clear HB)
          generalize ((((w13.setCell ⟨gb156, 0, none⟩ (.int .i64 ((rd_T70 l1 x10_1).f0))).setCell ⟨gb156, 1, none⟩ (.int .i64 ((rd_T70 l1 x10_1).f1))).setCell ⟨gb156, 2, none⟩ (.slice A155_2 ((rd_T70 l1 x10_1).f2).length c155_2)).setCell ⟨gb156, 3, none⟩ (.slice A155_3 ((rd_T70 l1 x10_1).f3).length c155_3)) = w15 at n0_ n1_ n2_ n3_ ⊢
          have HO_0 := n0_
          have HO_5 := n1_
          have BK156 := n2_
          have HB := n3_
          clear n0_ n1_ n2_ n3_
          have n0_ := Aside0.mk (Kd.V_drew HO_0.out)
          have n1_ := Aside0.mk (Kd.N_drew HO_5.out)
          have n2_ := Aside0.mk (blk_drew BK156.out)
          have n3_ := Aside0.mk (below_drew1 HB.out)
          clear HO_0
          clear HO_5
          clear BK156
          clear HB
          have HO_0 := n0_
          have HO_5 := n1_
          have BK156 := n2_
          have HB := n3_
          clear n0_ n1_ n2_ n3_
          obtain ⟨Ao18, co18, eo18⟩ := Kd.V_slice HO_0.out
          (first | subst eo18 | (injection eo18 with f1_ f2_ f3_; have f4_ := f1_.symm; have f5_ := f3_.symm; clear f1_ f2_ f3_; subst f4_; subst f5_))
          have q17 : (((rd_T70 l1 x10_1).f1) : Int) ≤ ((x0_1.length : Int) : Int) := of_decide_eq_true (by assumption)
          obtain ⟨i017, hi017, _, hsz17, _⟩ := info_parts info84
          have hroom17 : x0_1.length ≤ co18 := (Kd.V_reads' HO_0.out).2.1
          have hC17 : Kd.F k84 _ _ Ao18 x0_1.length x0_1 := (Kd.V_at (base := w.heap.size) HO_0.out).2.2
          have hcut17 := cut_to (P := Try.prog) 63 84 .i64 Try.underlying63 hi017 Ao18 x0_1.length co18 ((rd_T70 l1 x10_1).f1) (of_decide_eq_true (by assumption)) q17 hroom17
          have hr17 := Kd.F_take (m := (((rd_T70 l1 x10_1).f1) : Int).toNat) hC17 (by omega)
          have hy17 : y157.length = (((rd_T70 l1 x10_1).f1) : Int).toNat := (by rw [Ny157.out, List.length_take]; omega)
          rw [← Ny157.out] at hr17
          rw [← hy17] at hcut17
          have HO161 := Aside0.mk (show Kd.V k84 84 _ w.heap.size _ (.slice Ao18 y157.length co18) y157 from Kd.V_mk (by omega) hr17)
          have HC161 := Aside0.mk (show y157.length ≤ co18 from by omega)
          clear hr17 hC17 hroom17 hi017 hsz17
          have KY17 := Aside0.mk hy17
          clear hy17
          replace q17 := eq_true q17
          refine start_ (n := 10) (S := fun w' => w'.cell? ⟨gb156, 0, none⟩ = some (.int .i64 ((rd_T70 l1 x10_1).f0)) ∧ w'.cell? ⟨gb156, 1, none⟩ = some (.int .i64 ((rd_T70 l1 x10_1).f1)) ∧ w'.cell? ⟨gb156, 2, none⟩ = some (.slice A155_2 ((rd_T70 l1 x10_1).f2).length c155_2) ∧ w'.cell? ⟨gb156, 3, none⟩ = some (.slice A155_3 ((rd_T70 l1 x10_1).f3).length c155_3)) (ds := []) #[false, false, false, false, false, false, false, false, false, false] (by kernel_rfl) rfl rfl ⟨(blk_cell BK156.out 0).trans rfl, (blk_cell BK156.out 1).trans rfl, (blk_cell BK156.out 2).trans rfl, (blk_cell BK156.out 3).trans rfl⟩ (fun hHeld => ?_); refine with_tabW delta_Raw.tab8 delta_Raw.bits8 (fun HT_ HW_ => ?_)
          generalize w15.drew = w16 at HO_0 HO_5 BK156 HB HO161 hHeld ⊢
          refine pure_ (i := 0) (N := some 22) (v := ?_) (a' := ?_) (bm 1 10) rfl rfl (any_of HT_.out (by kernel_rfl)) (fun _ _ _ h => h) (Or.inl ⟨by rfl, ?_⟩) ?_ ?_
          rotate_left
          ·intro w'
           go_simp
           with_reducible rfl
          rotate_left
          ·simp only [Act.put, sA, sB, sC, i64_w, i32_w]
           rfl
          refine pure_ (i := 1) (N := some 23) (v := ?_) (a' := ?_) (bm 3 10) rfl rfl (any_of HT_.out (by kernel_rfl)) (fun _ _ _ h => h) (Or.inl ⟨by rfl, ?_⟩) ?_ ?_
          rotate_left
          ·intro w'
           go_simp
           with_reducible rfl
          rotate_left
          ·simp only [Act.put, sA, sB, sC, i64_w, i32_w]
           rfl
          refine pure_ (i := 2) (N := some 24) (v := ?_) (a' := ?_) (bm 7 10) rfl rfl (any_of HT_.out (by kernel_rfl)) (fun _ _ _ h => h) (Or.inl ⟨by rfl, ?_⟩) ?_ ?_
          rotate_left
          ·intro w'
           go_simp
           with_reducible rfl
          rotate_left
          ·simp only [Act.put, sA, sB, sC, i64_w, i32_w]
           rfl
          refine pure_ (i := 5) (N := some 27) (v := ?_) (a' := ?_) (bm 39 10) rfl rfl (any_of HT_.out (by kernel_rfl)) (fun _ _ _ h => h) (Or.inl ⟨by rfl, ?_⟩) ?_ ?_
          rotate_left
          ·intro w'
           go_simp
           with_reducible rfl
          rotate_left
          ·simp only [Act.put, sA, sB, sC, i64_w, i32_w]
           rfl
          refine take_ (i := 3) (N := some 25) (v := ?_) (a' := ?_) (bm 47 10) rfl rfl (take_ofW HT_.out HW_.out (by kernel_rfl)) (fun _ _ _ h => h) (Or.inl ⟨by rfl, ?_⟩) hHeld ?_ ?_
          rotate_left
          ·rintro w' ⟨s0, s1, s2, s3⟩
           go_simp
           with_reducible rfl
          rotate_left
          ·simp only [Act.put, sA, sB, sC, i64_w, i32_w]
           rfl
          refine pure_ (i := 4) (N := some 26) (v := ?_) (a' := ?_) (bm 63 10) rfl rfl (any_of HT_.out (by kernel_rfl)) (fun _ _ _ h => h) (Or.inl ⟨by rfl, ?_⟩) ?_ ?_
          rotate_left
          ·intro w'
           go_simp
           with_reducible rfl
          rotate_left
          ·simp only [Act.put, sA, sB, sC, i64_w, i32_w]
           rfl
          refine take_ (i := 6) (N := some 28) (v := ?_) (a' := ?_) (bm 127 10) rfl rfl (take_ofW HT_.out HW_.out (by kernel_rfl)) (fun _ _ _ h => h) (Or.inl ⟨by rfl, ?_⟩) hHeld ?_ ?_
          rotate_left
          ·rintro w' ⟨s0, s1, s2, s3⟩
           go_simp
           with_reducible rfl
          rotate_left
          ·simp only [Act.put, sA, sB, sC, i64_w, i32_w]
           rfl
          refine one_ (i := 7) (N := some 29) (bm 255 10) rfl rfl (one_of HT_.out (by kernel_rfl)) (by decide) (fun K hK => ?_)
          refine goes_ Try.func98 (by kernel_rfl) rfl #[.slice Ao18 y157.length co18, .slice A155_2 ((rd_T70 l1 x10_1).f2).length c155_2] (by rfl) rfl rfl (by (try simp only [List.map_toArray, List.map_cons, List.map_nil]); first | done | rfl | (simp only [List.length_drop, List.length_take]; rfl)) ?_
          with_reducible refine (delta_changed.calls k1 _ _ y157 _ _ ((rd_T70 l1 x10_1).f2) t162 _ ?side1 ?side2 ?side3 ?side4 A9.out).mono ?_
          (case side1 => repeat (first | exact (Kd.V_reads' HO161.out).2.2 | (with_reducible refine Kd.C_alloc ?_ _) | (with_reducible refine Kd.C_drewN ?_ _) | (with_reducible refine Kd.C_drew ?_)))
          (case side2 => exact (Kd.V_reads' HO161.out).2.1)
          (case side3 => repeat (first | exact (Kd.C_below HR155_2.out HB.out) | (with_reducible refine Kd.C_alloc ?_ _) | (with_reducible refine Kd.C_drewN ?_ _) | (with_reducible refine Kd.C_drew ?_)))
          (case side4 => exact HC155_2.out)
          rintro e w19 ⟨v163, rfl, ho0, hb⟩
          refine ⟨_, rfl, ?_⟩
          have n0_ := Aside0.mk (Kd.V_elder' (by (with_reducible repeat (first | apply Kd.V_alloc | apply Kd.V_drewN | apply Kd.V_drew)); exact HO_0.out) (Kd.N_base (by first | exact ho0 | exact Kd.S_N ho0)) hb)
          have n1_ := Aside0.mk (Kd.N_elder' (by (with_reducible repeat (first | apply Kd.N_alloc | apply Kd.N_drewN | apply Kd.N_drew)); exact HO_5.out) (Kd.N_base (by first | exact ho0 | exact Kd.S_N ho0)) hb)
          have n2_ := Aside0.mk (Kd.V_elder' (by (with_reducible repeat (first | apply Kd.V_alloc | apply Kd.V_drewN | apply Kd.V_drew)); exact HO161.out) (Kd.N_base (by first | exact ho0 | exact Kd.S_N ho0)) hb)
          have n3_ := Aside0.mk (Kd.N_lower (Kd.N_mono (ok' := fun k_ => (P0_ k_ ∨ w.heap.size ≤ k_) ∧ some k_ ≠ (u5 : Value).ownBlock ∧ k_ ≠ gb156) (Kd.S_N (Kd.S_bound ho0)) (fun k_ hk_ => ⟨(.inr (Nat.le_trans (below_size (by repeat (first | (with_reducible first | exact HB.out | apply below_alloc | apply pw_below_drewN | apply below_drew1 | refine below_set ?_ GE156.out) | exact HB.out))) hk_.2.1)), (Kd.fresh' (Kd.N_lt (by (with_reducible repeat (first | apply Kd.N_alloc | apply Kd.N_drewN | apply Kd.N_drew)); exact HO_5.out)) k_ hk_.2.1), (Kd.freshB (g := gb156) (o := .cells #[.int .i64 ((rd_T70 l1 x10_1).f0), .int .i64 ((rd_T70 l1 x10_1).f1), .slice A155_2 ((rd_T70 l1 x10_1).f2).length c155_2, .slice A155_3 ((rd_T70 l1 x10_1).f3).length c155_3] 70 (0, 0)) (by (with_reducible repeat (first | refine blk_drewN ?_ _ | refine blk_drew ?_ | refine blk_alloc ?_ _)); exact BK156.out) k_ hk_.2.1)⟩)) (below_size (by repeat (first | (with_reducible first | exact HB.out | apply below_alloc | apply pw_below_drewN | apply below_drew1 | refine below_set ?_ GE156.out) | exact HB.out))))
          have n4_ := Aside0.mk (blk_below (g := gb156) (o := .cells #[.int .i64 ((rd_T70 l1 x10_1).f0), .int .i64 ((rd_T70 l1 x10_1).f1), .slice A155_2 ((rd_T70 l1 x10_1).f2).length c155_2, .slice A155_3 ((rd_T70 l1 x10_1).f3).length c155_3] 70 (0, 0)) (by (with_reducible repeat (first | refine blk_drewN ?_ _ | refine blk_drew ?_ | refine blk_alloc ?_ _)); exact BK156.out) hb)
          have n5_ := Aside0.mk (below_step (by repeat (first | (with_reducible first | exact HB.out | apply below_alloc | apply pw_below_drewN | apply below_drew1 | refine below_set ?_ GE156.out) | exact HB.out)) hb)
          clear HO_0
          clear HO_5
          clear HO161
          clear BK156
          clear HB
          have HO_0 := n0_
          have HO_5 := n1_
          have HO161 := n2_
          have HO164 := n3_
          have BK156 := n4_
          have HB := n5_
          clear n0_ n1_ n2_ n3_ n4_ n5_
          (try clear hb)
          (try clear hb2)
          (try clear hk)
          (try clear hi)
          (try clear ho0)
          obtain ⟨Ao21, co21, eo21⟩ := Kd.N_slice HO164.out
          (first | subst eo21 | (injection eo21 with f1_ f2_ f3_; have f4_ := f1_.symm; have f5_ := f3_.symm; clear f1_ f2_ f3_; subst f4_; subst f5_))
          refine hK.out _ _ ⟨(blk_cell BK156.out 0).trans rfl, (blk_cell BK156.out 1).trans rfl, (blk_cell BK156.out 2).trans rfl, (blk_cell BK156.out 3).trans rfl⟩ (fun hHeld => ?_)
          clear hK K
          refine norm_ (a' := ?_) ?_ ?_
          rotate_left
          ·show Act.put _ (some 29) _ = _
           simp only [Act.put, sA, sB, sC, i64_w, i32_w]
           rfl
          refine one_ (i := 8) (N := some 30) (bm 511 10) rfl rfl (one_of HT_.out (by kernel_rfl)) (by decide) (fun K hK => ?_)
          refine Kd.N_append_rows_step k84 (w0 := w) w.heap.size (by rfl) (.tmp 22) (.tmp 29) 63 84 (.agg #[(.int .i64 0), (.int .i64 0), (.slice none 0 0)]) 40 rfl Try.underlying63 info84 rfl (by decide) (by omega) u5 x5_1 t162 _ _ _ (fun k_ => (P0_ k_ ∨ w.heap.size ≤ k_) ∧ k_ ≠ gb156) (fun k_ => ((fun k_ => (P0_ k_ ∨ w.heap.size ≤ k_) ∧ k_ ≠ gb156)) k_ ∧ some k_ ≠ (u5 : Value).ownBlock) rfl rfl ?aO ?aR (fun _ hk => hk) ?aF ?aB ?aS ?aL ?_
          (case aR => exact (by skip; exact Kd.N_F (Kd.N_mono (ok' := (fun k_ => ((fun k_ => (P0_ k_ ∨ w.heap.size ≤ k_) ∧ k_ ≠ gb156)) k_ ∧ some k_ ≠ (u5 : Value).ownBlock)) (HO164.out) (fun k_ hk => ⟨⟨hk.1, hk.2.2⟩, hk.2.1⟩))))
          (case aB => exact (by repeat (first | (with_reducible first | exact HB.out | apply below_alloc | apply pw_below_drewN | apply below_drew1 | refine below_set ?_ GE156.out) | exact HB.out)))
          (case aF => exact (fun k_ hk => ⟨(.inr (Nat.le_trans (below_size (by repeat (first | (with_reducible first | exact HB.out | apply below_alloc | apply pw_below_drewN | apply below_drew1 | refine below_set ?_ GE156.out) | exact HB.out))) hk)), Kd.freshB (g := gb156) (o := .cells #[.int .i64 ((rd_T70 l1 x10_1).f0), .int .i64 ((rd_T70 l1 x10_1).f1), .slice A155_2 ((rd_T70 l1 x10_1).f2).length c155_2, .slice A155_3 ((rd_T70 l1 x10_1).f3).length c155_3] 70 (0, 0)) (by (with_reducible repeat (first | refine blk_drewN ?_ _ | refine blk_drew ?_ | refine blk_alloc ?_ _)); exact BK156.out) k_ hk⟩))
          (case aO => exact (by (with_reducible repeat (first | apply Kd.N_alloc | apply Kd.N_drewN | apply Kd.N_drew)); exact Kd.N_mono HO_5.out (fun _ hk => ⟨hk.1.1, hk.1.2⟩)))
          (case aS => exact (below_size (by repeat (first | (with_reducible first | exact HB.out | apply below_alloc | apply pw_below_drewN | apply below_drew1 | refine below_set ?_ GE156.out) | exact HB.out))))
          (case aL => have := LMc10.out; omega)
          intro v166 w20 ho hb hg hat
          rw [← Ny165.out] at ho
          have n0_ := Aside0.mk (Kd.V_afterv (ok := (fun k_ => (P0_ k_ ∨ w.heap.size ≤ k_) ∧ some k_ ≠ (.slice Ao21 t162.length co21 : Value).ownBlock ∧ k_ ≠ gb156)) (by (with_reducible repeat (first | apply Kd.V_alloc | apply Kd.V_drewN | apply Kd.V_drew)); exact Kd.V_mono HO_0.out (fun _ hk => ⟨⟨hk.1.1, ⟨hk.2, hk.1.2.2⟩⟩, hk.1.2.1⟩)) hg hat)
          have n1_ := Aside0.mk (blk_grown (g := gb156) (o := .cells #[.int .i64 ((rd_T70 l1 x10_1).f0), .int .i64 ((rd_T70 l1 x10_1).f1), .slice A155_2 ((rd_T70 l1 x10_1).f2).length c155_2, .slice A155_3 ((rd_T70 l1 x10_1).f3).length c155_3] 70 (0, 0)) (by (with_reducible repeat (first | refine blk_drewN ?_ _ | refine blk_drew ?_ | refine blk_alloc ?_ _)); exact BK156.out) hg (Kd.N_ne HO_5.out BK156.out (by decide)))
          have n2_ := Aside0.mk (Kd.V_afterv (ok := (fun k_ => (P0_ k_ ∨ w.heap.size ≤ k_) ∧ some k_ ≠ (.slice Ao21 t162.length co21 : Value).ownBlock ∧ k_ ≠ gb156)) (by (with_reducible repeat (first | apply Kd.V_alloc | apply Kd.V_drewN | apply Kd.V_drew)); exact Kd.V_mono HO161.out (fun _ hk => ⟨⟨hk.1.1, ⟨hk.2, hk.1.2.2⟩⟩, hk.1.2.1⟩)) hg hat)
          have n3_ := Aside0.mk (Kd.N_afterv (ok := (fun k_ => (P0_ k_ ∨ w.heap.size ≤ k_) ∧ k_ ≠ gb156)) (by (with_reducible repeat (first | apply Kd.N_alloc | apply Kd.N_drewN | apply Kd.N_drew)); exact Kd.N_mono HO164.out (fun _ hk => ⟨⟨hk.1, hk.2.2⟩, hk.2.1⟩)) hg hat)
          have n4_ := Aside0.mk (hb)
          have n5_ := Aside0.mk (ho)
          clear HO_0
          clear BK156
          clear HO161
          clear HO164
          clear HB
          clear HO_5
          have HO_0 := n0_
          have BK156 := n1_
          have HO161 := n2_
          have HO164 := n3_
          have HB := n4_
          have HO167 := n5_
          clear n0_ n1_ n2_ n3_ n4_ n5_
          clear ho hb hg hat
          refine hK.out _ _ ⟨(blk_cell BK156.out 0).trans rfl, (blk_cell BK156.out 1).trans rfl, (blk_cell BK156.out 2).trans rfl, (blk_cell BK156.out 3).trans rfl⟩ (fun hHeld => ?_)
          clear hK K
          refine norm_ (a' := ?_) ?_ ?_
          rotate_left
          ·show Act.put _ (some 30) _ = _
           simp only [Act.put, sA, sB, sC, i64_w, i32_w]
           rfl
          refine pure_ (i := 9) (N := some 5) (v := ?_) (a' := ?_) (bm 1023 10) rfl rfl (any_of HT_.out (by kernel_rfl)) (fun _ _ _ h => h) (Or.inl ⟨by rfl, ?_⟩) ?_ ?_
          rotate_left
          ·intro w'
           go_simp
           with_reducible rfl
          rotate_left
          ·simp only [Act.put, sA, sB, sC, i64_w, i32_w]
           rfl
          refine done_ (done_of HT_.out (by kernel_rfl)) ?_
          have hcz22_0 : w20.cell? ⟨gb156, 0, none⟩ = some (.int .i64 ((rd_T70 l1 x10_1).f0)) := (blk_cell BK156.out 0).trans rfl
          have hcz22_1 : w20.cell? ⟨gb156, 1, none⟩ = some (.int .i64 ((rd_T70 l1 x10_1).f1)) := (blk_cell BK156.out 1).trans rfl
          have hcz22_2 : w20.cell? ⟨gb156, 2, none⟩ = some (.slice A155_2 ((rd_T70 l1 x10_1).f2).length c155_2) := (blk_cell BK156.out 2).trans rfl
          have hcz22_3 : w20.cell? ⟨gb156, 3, none⟩ = some (.slice A155_3 ((rd_T70 l1 x10_1).f3).length c155_3) := (blk_cell BK156.out 3).trans rfl
          have hfz22_0 := blk_frozen BK156.out 0
          have hfz22_1 := blk_frozen BK156.out 1
          have hfz22_2 := blk_frozen BK156.out 2
          have hfz22_3 := blk_frozen BK156.out 3
          have q23 : (((rd_T70 l1 x10_1).f1) : Int) ≤ ((x0_1.length : Int) : Int) := of_decide_eq_true (by assumption)
          obtain ⟨i023, hi023, _, hsz23, _⟩ := info_parts info84
          have hroom23 : x0_1.length ≤ co18 := (Kd.V_reads' HO_0.out).2.1
          have hC23 : Kd.F k84 _ _ Ao18 x0_1.length x0_1 := (Kd.V_at (base := w.heap.size) HO_0.out).2.2
          have q023 : (0 : Int) ≤ (((rd_T70 l1 x10_1).f1) : Int) := of_decide_eq_true (by assumption)
          have hcut23 := cut_from (P := Try.prog) 63 84 .i64 Try.underlying63 hi023 3 hsz23 Ao18 x0_1.length co18 ((rd_T70 l1 x10_1).f1) q023 q23
          have hr23 := Kd.F_cut (m := (((rd_T70 l1 x10_1).f1) : Int).toNat) (c := co18) hC23 (by omega) hroom23
          obtain ⟨A23, hA23⟩ : ∃ A1, A1 = (if co18 = (((rd_T70 l1 x10_1).f1) : Int).toNat then Ao18 else (Ao18 : Option Addr).map (·.add ((((rd_T70 l1 x10_1).f1) : Int).toNat * 3))) := ⟨_, rfl⟩
          obtain ⟨c23, hc23⟩ : ∃ c1, c1 = co18 - (((rd_T70 l1 x10_1).f1) : Int).toNat := ⟨_, rfl⟩
          have hy23 : y168.length = x0_1.length - (((rd_T70 l1 x10_1).f1) : Int).toNat := (by rw [Ny168.out, List.length_drop] <;> omega)
          rw [show (x0_1).drop (((rd_T70 l1 x10_1).f1) : Int).toNat = y168 from Ny168.out.symm] at hr23
          replace hr23 : Kd.F k84 _ _ A23 y168.length y168 := (by rw [hA23]; exact hr23)
          rw [← hy23, ← hA23, ← hc23] at hcut23
          have HO172 := Aside0.mk (show Kd.V k84 84 _ w.heap.size _ (.slice A23 y168.length c23) y168 from Kd.V_mk (by rw [hy23, hc23]; exact Nat.sub_le_sub_right hroom23 _) hr23)
          have HC172 := Aside0.mk (show y168.length ≤ c23 from by rw [hy23, hc23]; exact Nat.sub_le_sub_right hroom23 _)
          clear hr23 hC23 hroom23 hi023 hsz23 hc23
          have KY23 := Aside0.mk hy23
          have KA23 := Aside0.mk hA23
          clear hy23 hA23
          replace q23 := eq_true q23
          try go_wp2
          go_roundg k1
          case measure => have := HK1.out; omega
          case rel => exact ⟨(y168), (y165), (wrap64 (x10_1 + 1)), (by first | rfl | (simp; done) | (simp [*]; done)), H', ⟨by have := HK1.out; omega⟩, ⟨by (with_reducible repeat (first | apply Kd.V_alloc | apply Kd.V_drewN | apply Kd.V_drew)); exact Kd.V_mono HO172.out (fun _ hk => ⟨hk.1.1, hk.2⟩)⟩, ⟨by (with_reducible repeat (first | apply Kd.N_alloc | apply Kd.N_drewN | apply Kd.N_drew)); exact Kd.N_mono HO167.out (fun _ hk => hk.1)⟩, ⟨by repeat (first | (with_reducible first | exact HB.out | apply below_alloc | apply pw_below_drewN | apply below_drew1 | refine below_set ?_ GE156.out) | exact HB.out)⟩⟩
         ·rw [if_neg c10] at H
          exact absurd H (by simp)
        ·rw [if_neg c8] at H
         exact absurd H (by simp)
       ·rw [if_neg c7] at H
        exact absurd H (by simp)
      ·rw [if_neg c6] at H
       have c6b0 : (((rd_T70 l1 x10_1).f0) == 0) = false := beq_eq_false_iff_ne.mpr c6
       have c6b1 : (((rd_T70 l1 x10_1).f0) != 0) = true := bne_iff_ne.mpr c6
       by_cases c24 : ((rd_T70 l1 x10_1).f0) = 1
       ·rw [if_pos c24] at H
        have c24b0 : (((rd_T70 l1 x10_1).f0) == 1) = true := beq_iff_eq.mpr c24
        have c24b1 : (((rd_T70 l1 x10_1).f0) != 1) = false := bne_eq_false_iff_eq.mpr c24
        clear c24
        replace H := Option.bind_eq_some_iff.mp H
        obtain ⟨t173, A250, H⟩ := H
        replace H : (if x5_1.length + t173.length < 3518437208883 then (delta_Raw.l0 k1 x0_1 (x5_1 ++ t173) l1 (l1.length : Int) (wrap64 (x10_1 + 1))) else (none)) = some r := H
        have A25 := Aside0.mk A250
        clear A250
        by_cases c26 : x5_1.length + t173.length < 3518437208883
        ·rw [if_pos c26] at H
         have LMc26 := Aside0.mk c26
         clear c26
         obtain ⟨y176, hy176⟩ : ∃ y_ : List (S84), y_ = (x5_1 ++ t173) := ⟨_, rfl⟩
         replace H : (delta_Raw.l0 k1 x0_1 y176 l1 (l1.length : Int) (wrap64 (x10_1 + 1))) = some r := by first | (rw [hy176]; with_reducible exact H) | (have H2_ := (Option.bind_some _ _).symm.trans H; rw [hy176]; with_reducible exact H2_) | (have H2_ := (Option.bind_some _ _).symm.trans H; with_reducible exact H2_) | with_reducible exact H | (rw [hy176]; exact H) | exact H
         have Ny176 := Aside0.mk hy176
         clear hy176
         have H' := Aside0.mk H
         clear H
         have p155 : 0 ≤ (x10_1 : Int) := of_decide_eq_true (by assumption)
         have q155 : x10_1 < (l1.length : Int) := of_decide_eq_true (by assumption)
         obtain ⟨ad155, A155_2, c155_2, A155_3, c155_3, e155, hx155_0, hx155_1, hx155_2, hx155_3, hl155_2, hi155_2, hl155_3, hi155_3⟩ := at_T70 HR1.out x10_1 p155 q155
         cases e155
         replace hx155_0 := (HB.out.cell (World.block_lt_of_cell? w _ hx155_0)).trans hx155_0
         replace hx155_1 := (HB.out.cell (World.block_lt_of_cell? w _ hx155_1)).trans hx155_1
         replace hx155_2 := (HB.out.cell (World.block_lt_of_cell? w _ hx155_2)).trans hx155_2
         replace hx155_3 := (HB.out.cell (World.block_lt_of_cell? w _ hx155_3)).trans hx155_3
         have HR155_2 := Aside0.mk hi155_2
         have HC155_2 := Aside0.mk hl155_2
         clear hi155_2 hl155_2
         have HR155_3 := Aside0.mk hi155_3
         have HC155_3 := Aside0.mk hl155_3
         clear hi155_3 hl155_3
         replace p155 := eq_true p155
         replace q155 := eq_true q155
         go_wp2_with (first | ((with_reducible refine gate_dst (N := 7) rfl ?_); refine box_event ?hg (N := 7) ?hd (cs := #[.int .i64 0, .int .i64 0, .slice none 0 0, .slice none 0 0]) (t := 70) ?hr ?_; (case hd => rfl); (case hg => rfl); (case hr => first | (go_simp; done) | (go_simp; rfl)); intro gb156 hg w27 hbox hb; have n0_ := Aside0.mk (Kd.V_below (Kd.V_elderB (by (with_reducible repeat (first | apply Kd.V_alloc | apply Kd.V_drewN | apply Kd.V_drew)); exact HO_0.out) gb156 (Nat.le_of_eq hg.symm)) hb); have n1_ := Aside0.mk (Kd.N_below (Kd.N_elderB (by (with_reducible repeat (first | apply Kd.N_alloc | apply Kd.N_drewN | apply Kd.N_drew)); exact HO_5.out) gb156 (Nat.le_of_eq hg.symm)) hb); have n2_ := Aside0.mk (below_step (by with_reducible repeat first | exact HB.out | apply below_alloc | apply pw_below_drewN | apply below_drew1) hb); have n3_ := Aside0.mk (hbox); have n4_ := Aside0.mk ((by rw [hg]; exact (below_size (by with_reducible repeat first | exact HB.out | apply below_alloc | apply pw_below_drewN | apply below_drew1)) : w.heap.size ≤ gb156)); have n5_ := Aside0.mk ((by rw [hg]; exact (below_size (by with_reducible repeat first | exact HB.out | apply below_alloc | apply pw_below_drewN | apply below_drew1)) : w.heap.size ≤ gb156)); clear HO_0; clear HO_5; clear HB; have HO_0 := n0_; have HO_5 := n1_; have HB := n2_; have BK156 := n3_; have GW156 := n4_; have GE156 := n5_; clear n0_ n1_ n2_ n3_ n4_ n5_; clear hb hbox hg; have hcz28_0 : w27.cell? ⟨gb156, 0, none⟩ = some (.int .i64 0) := (blk_cell BK156.out 0).trans rfl; have hcz28_1 : w27.cell? ⟨gb156, 1, none⟩ = some (.int .i64 0) := (blk_cell BK156.out 1).trans rfl; have hcz28_2 : w27.cell? ⟨gb156, 2, none⟩ = some (.slice none 0 0) := (blk_cell BK156.out 2).trans rfl; have hcz28_3 : w27.cell? ⟨gb156, 3, none⟩ = some (.slice none 0 0) := (blk_cell BK156.out 3).trans rfl; have hfz28_0 := blk_frozen BK156.out 0; have hfz28_1 := blk_frozen BK156.out 1; have hfz28_2 := blk_frozen BK156.out 2; have hfz28_3 := blk_frozen BK156.out 3) | ((with_reducible refine gate_callee (f := 112) rfl ?_); refine goesL_ (some 40) rfl rfl Try.func112 (by kernel_rfl) rfl #[.slice A155_3 ((rd_T70 l1 x10_1).f3).length c155_3] rfl (by (try simp only [List.map_toArray, List.map_cons, List.map_nil]); first | done | rfl | (simp only [List.length_drop, List.length_take]; rfl)) ?_; (with_reducible refine (flow_Copy.calls k1 _ _ ((rd_T70 l1 x10_1).f3) t173 _ ?side1 ?side2 A25.out).mono ?_); (case side1 => exact Kd.C_below HR155_3.out (by repeat (first | (with_reducible first | exact HB.out | apply below_alloc | apply pw_below_drewN | apply below_drew1 | refine below_set ?_ GE156.out) | exact HB.out))); (case side2 => exact HC155_3.out); rintro e w29 ⟨v174, rfl, ho0, hb⟩; refine ⟨_, rfl, ?_⟩; have n0_ := Aside0.mk (Kd.V_elder' (by (with_reducible repeat (first | apply Kd.V_alloc | apply Kd.V_drewN | apply Kd.V_drew)); exact (Kd.V_mono (Kd.V_far (p := ⟨gb156, 3, none⟩) (Kd.V_far (p := ⟨gb156, 2, none⟩) (Kd.V_far (p := ⟨gb156, 1, none⟩) (Kd.V_far (p := ⟨gb156, 0, none⟩) (Kd.V_mono HO_0.out (fun k_ hk => (⟨hk, hk.2⟩ : _ ∧ k_ ≠ gb156))) (fun _ hk => hk.2) (.int .i64 ((rd_T70 l1 x10_1).f0))) (fun _ hk => hk.2) (.int .i64 ((rd_T70 l1 x10_1).f1))) (fun _ hk => hk.2) (.slice A155_2 ((rd_T70 l1 x10_1).f2).length c155_2)) (fun _ hk => hk.2) (.slice A155_3 ((rd_T70 l1 x10_1).f3).length c155_3)) (fun _ h_ => h_.1))) (Kd.N_base (by first | exact ho0 | exact Kd.S_N ho0)) hb); have n1_ := Aside0.mk (Kd.N_elder' (by (with_reducible repeat (first | apply Kd.N_alloc | apply Kd.N_drewN | apply Kd.N_drew)); exact (Kd.N_mono (Kd.N_far (p := ⟨gb156, 3, none⟩) (Kd.N_far (p := ⟨gb156, 2, none⟩) (Kd.N_far (p := ⟨gb156, 1, none⟩) (Kd.N_far (p := ⟨gb156, 0, none⟩) (Kd.N_mono HO_5.out (fun k_ hk => (⟨hk, hk.2⟩ : _ ∧ k_ ≠ gb156))) (fun _ hk => hk.2) (.int .i64 ((rd_T70 l1 x10_1).f0))) (fun _ hk => hk.2) (.int .i64 ((rd_T70 l1 x10_1).f1))) (fun _ hk => hk.2) (.slice A155_2 ((rd_T70 l1 x10_1).f2).length c155_2)) (fun _ hk => hk.2) (.slice A155_3 ((rd_T70 l1 x10_1).f3).length c155_3)) (fun _ h_ => h_.1))) (Kd.N_base (by first | exact ho0 | exact Kd.S_N ho0)) hb); have n2_ := Aside0.mk (Kd.N_lower (Kd.N_mono (ok' := fun k_ => (P0_ k_ ∨ w.heap.size ≤ k_) ∧ some k_ ≠ (u5 : Value).ownBlock ∧ k_ ≠ gb156) ho0 (fun k_ hk_ => ⟨(.inr (Nat.le_trans (below_size (by repeat (first | (with_reducible first | exact HB.out | apply below_alloc | apply pw_below_drewN | apply below_drew1 | refine below_set ?_ GE156.out) | exact HB.out))) hk_)), (Kd.fresh' (Kd.N_lt (by (with_reducible repeat (first | apply Kd.N_alloc | apply Kd.N_drewN | apply Kd.N_drew)); exact (Kd.N_mono (Kd.N_far (p := ⟨gb156, 3, none⟩) (Kd.N_far (p := ⟨gb156, 2, none⟩) (Kd.N_far (p := ⟨gb156, 1, none⟩) (Kd.N_far (p := ⟨gb156, 0, none⟩) (Kd.N_mono HO_5.out (fun k_ hk => (⟨hk, hk.2⟩ : _ ∧ k_ ≠ gb156))) (fun _ hk => hk.2) (.int .i64 ((rd_T70 l1 x10_1).f0))) (fun _ hk => hk.2) (.int .i64 ((rd_T70 l1 x10_1).f1))) (fun _ hk => hk.2) (.slice A155_2 ((rd_T70 l1 x10_1).f2).length c155_2)) (fun _ hk => hk.2) (.slice A155_3 ((rd_T70 l1 x10_1).f3).length c155_3)) (fun _ h_ => h_.1)))) k_ hk_), (Kd.freshB (g := gb156) (o := .cells #[.int .i64 ((rd_T70 l1 x10_1).f0), .int .i64 ((rd_T70 l1 x10_1).f1), .slice A155_2 ((rd_T70 l1 x10_1).f2).length c155_2, .slice A155_3 ((rd_T70 l1 x10_1).f3).length c155_3] 70 (0, 0)) (by (with_reducible repeat (first | refine blk_drewN ?_ _ | refine blk_drew ?_ | refine blk_alloc ?_ _)); refine blk_put (cs := #[.int .i64 ((rd_T70 l1 x10_1).f0), .int .i64 ((rd_T70 l1 x10_1).f1), .slice A155_2 ((rd_T70 l1 x10_1).f2).length c155_2, .slice none 0 0]) ?_ 3 _ rfl; (with_reducible repeat (first | refine blk_drewN ?_ _ | refine blk_drew ?_ | refine blk_alloc ?_ _)); refine blk_put (cs := #[.int .i64 ((rd_T70 l1 x10_1).f0), .int .i64 ((rd_T70 l1 x10_1).f1), .slice none 0 0, .slice none 0 0]) ?_ 2 _ rfl; (with_reducible repeat (first | refine blk_drewN ?_ _ | refine blk_drew ?_ | refine blk_alloc ?_ _)); refine blk_put (cs := #[.int .i64 ((rd_T70 l1 x10_1).f0), .int .i64 0, .slice none 0 0, .slice none 0 0]) ?_ 1 _ rfl; (with_reducible repeat (first | refine blk_drewN ?_ _ | refine blk_drew ?_ | refine blk_alloc ?_ _)); refine blk_put (cs := #[.int .i64 0, .int .i64 0, .slice none 0 0, .slice none 0 0]) ?_ 0 _ rfl; (with_reducible repeat (first | refine blk_drewN ?_ _ | refine blk_drew ?_ | refine blk_alloc ?_ _)); exact BK156.out) k_ hk_)⟩)) (below_size (by repeat (first | (with_reducible first | exact HB.out | apply below_alloc | apply pw_below_drewN | apply below_drew1 | refine below_set ?_ GE156.out) | exact HB.out)))); have n3_ := Aside0.mk (blk_below (g := gb156) (o := .cells #[.int .i64 ((rd_T70 l1 x10_1).f0), .int .i64 ((rd_T70 l1 x10_1).f1), .slice A155_2 ((rd_T70 l1 x10_1).f2).length c155_2, .slice A155_3 ((rd_T70 l1 x10_1).f3).length c155_3] 70 (0, 0)) (by (with_reducible repeat (first | refine blk_drewN ?_ _ | refine blk_drew ?_ | refine blk_alloc ?_ _)); refine blk_put (cs := #[.int .i64 ((rd_T70 l1 x10_1).f0), .int .i64 ((rd_T70 l1 x10_1).f1), .slice A155_2 ((rd_T70 l1 x10_1).f2).length c155_2, .slice none 0 0]) ?_ 3 _ rfl; (with_reducible repeat (first | refine blk_drewN ?_ _ | refine blk_drew ?_ | refine blk_alloc ?_ _)); refine blk_put (cs := #[.int .i64 ((rd_T70 l1 x10_1).f0), .int .i64 ((rd_T70 l1 x10_1).f1), .slice none 0 0, .slice none 0 0]) ?_ 2 _ rfl; (with_reducible repeat (first | refine blk_drewN ?_ _ | refine blk_drew ?_ | refine blk_alloc ?_ _)); refine blk_put (cs := #[.int .i64 ((rd_T70 l1 x10_1).f0), .int .i64 0, .slice none 0 0, .slice none 0 0]) ?_ 1 _ rfl; (with_reducible repeat (first | refine blk_drewN ?_ _ | refine blk_drew ?_ | refine blk_alloc ?_ _)); refine blk_put (cs := #[.int .i64 0, .int .i64 0, .slice none 0 0, .slice none 0 0]) ?_ 0 _ rfl; (with_reducible repeat (first | refine blk_drewN ?_ _ | refine blk_drew ?_ | refine blk_alloc ?_ _)); exact BK156.out) hb); have n4_ := Aside0.mk (below_step (by repeat (first | (with_reducible first | exact HB.out | apply below_alloc | apply pw_below_drewN | apply below_drew1 | refine below_set ?_ GE156.out) | exact HB.out)) hb); clear HO_0; clear HO_5; clear BK156; clear HB; have HO_0 := n0_; have HO_5 := n1_; have HO175 := n2_; have BK156 := n3_; have HB := n4_; clear n0_ n1_ n2_ n3_ n4_; (try clear hb); (try clear hb2); (try clear hk); (try clear hi); (try clear ho0); obtain ⟨Ao31, co31, eo31⟩ := Kd.N_slice HO175.out; subst eo31) | ((with_reducible refine gate_builtin (b := .append) (xs := #[.tmp 37, .tmp 40]) rfl ?_); at_builtin; refine Kd.N_append_rows k84 (w0 := w) w.heap.size rfl (.tmp 37) (.tmp 40) 63 84 (.agg #[(.int .i64 0), (.int .i64 0), (.slice none 0 0)]) 40 rfl Try.underlying63 info84 rfl (by decide) (by omega) u5 x5_1 t173 _ _ _ (fun k_ => (P0_ k_ ∨ w.heap.size ≤ k_) ∧ k_ ≠ gb156) (fun k_ => ((fun k_ => (P0_ k_ ∨ w.heap.size ≤ k_) ∧ k_ ≠ gb156)) k_ ∧ some k_ ≠ (u5 : Value).ownBlock) rfl rfl ?aO ?aR (fun _ hk => hk) ?aF ?aB ?aS ?aL ?_; (case aR => exact (by skip; exact Kd.N_F (Kd.N_mono (ok' := (fun k_ => ((fun k_ => (P0_ k_ ∨ w.heap.size ≤ k_) ∧ k_ ≠ gb156)) k_ ∧ some k_ ≠ (u5 : Value).ownBlock)) (HO175.out) (fun k_ hk => ⟨⟨hk.1, hk.2.2⟩, hk.2.1⟩)))); (case aB => exact (by repeat (first | (with_reducible first | exact HB.out | apply below_alloc | apply pw_below_drewN | apply below_drew1 | refine below_set ?_ GE156.out) | exact HB.out))); (case aF => exact (fun k_ hk => ⟨(.inr (Nat.le_trans (below_size (by repeat (first | (with_reducible first | exact HB.out | apply below_alloc | apply pw_below_drewN | apply below_drew1 | refine below_set ?_ GE156.out) | exact HB.out))) hk)), Kd.freshB (g := gb156) (o := .cells #[.int .i64 ((rd_T70 l1 x10_1).f0), .int .i64 ((rd_T70 l1 x10_1).f1), .slice A155_2 ((rd_T70 l1 x10_1).f2).length c155_2, .slice A155_3 ((rd_T70 l1 x10_1).f3).length c155_3] 70 (0, 0)) (by (with_reducible repeat (first | refine blk_drewN ?_ _ | refine blk_drew ?_ | refine blk_alloc ?_ _)); exact BK156.out) k_ hk⟩)); (case aO => exact (by (with_reducible repeat (first | apply Kd.N_alloc | apply Kd.N_drewN | apply Kd.N_drew)); exact Kd.N_mono HO_5.out (fun _ hk => ⟨hk.1.1, hk.1.2⟩))); (case aS => exact (below_size (by repeat (first | (with_reducible first | exact HB.out | apply below_alloc | apply pw_below_drewN | apply below_drew1 | refine below_set ?_ GE156.out) | exact HB.out)))); (case aL => have := LMc26.out; omega); intro v177 w30 ho hb hg hat; rw [← Ny176.out] at ho; have n0_ := Aside0.mk (Kd.V_afterv (ok := (fun k_ => (P0_ k_ ∨ w.heap.size ≤ k_) ∧ some k_ ≠ (.slice Ao31 t173.length co31 : Value).ownBlock ∧ k_ ≠ gb156)) (by (with_reducible repeat (first | apply Kd.V_alloc | apply Kd.V_drewN | apply Kd.V_drew)); exact Kd.V_mono HO_0.out (fun _ hk => ⟨⟨hk.1.1.1, ⟨hk.2, hk.1.2⟩⟩, hk.1.1.2⟩)) hg hat); have n1_ := Aside0.mk (blk_grown (g := gb156) (o := .cells #[.int .i64 ((rd_T70 l1 x10_1).f0), .int .i64 ((rd_T70 l1 x10_1).f1), .slice A155_2 ((rd_T70 l1 x10_1).f2).length c155_2, .slice A155_3 ((rd_T70 l1 x10_1).f3).length c155_3] 70 (0, 0)) (by (with_reducible repeat (first | refine blk_drewN ?_ _ | refine blk_drew ?_ | refine blk_alloc ?_ _)); exact BK156.out) hg (Kd.N_ne HO_5.out BK156.out (by decide))); have n2_ := Aside0.mk (Kd.N_afterv (ok := (fun k_ => (P0_ k_ ∨ w.heap.size ≤ k_) ∧ k_ ≠ gb156)) (by (with_reducible repeat (first | apply Kd.N_alloc | apply Kd.N_drewN | apply Kd.N_drew)); exact Kd.N_mono HO175.out (fun _ hk => ⟨⟨hk.1, hk.2.2⟩, hk.2.1⟩)) hg hat); have n3_ := Aside0.mk (hb); have n4_ := Aside0.mk (ho); clear HO_0; clear BK156; clear HO175; clear HB; clear HO_5; have HO_0 := n0_; have BK156 := n1_; have HO175 := n2_; have HB := n3_; have HO178 := n4_; clear n0_ n1_ n2_ n3_ n4_; clear ho hb hg hat))
         go_roundg k1
         case measure => have := HK1.out; omega
         case rel => exact ⟨(x0_1), (y176), (wrap64 (x10_1 + 1)), (by first | rfl | (simp; done) | (simp [*]; done)), H', ⟨by have := HK1.out; omega⟩, ⟨by (with_reducible repeat (first | apply Kd.V_alloc | apply Kd.V_drewN | apply Kd.V_drew)); exact Kd.V_mono HO_0.out (fun _ hk => ⟨hk.1.1, hk.2⟩)⟩, ⟨by (with_reducible repeat (first | apply Kd.N_alloc | apply Kd.N_drewN | apply Kd.N_drew)); exact Kd.N_mono HO178.out (fun _ hk => hk.1)⟩, ⟨by repeat (first | (with_reducible first | exact HB.out | apply below_alloc | apply pw_below_drewN | apply below_drew1 | refine below_set ?_ GE156.out) | exact HB.out)⟩⟩
        ·rw [if_neg c26] at H
         exact absurd H (by simp)
       ·rw [if_neg c24] at H
        have c24b0 : (((rd_T70 l1 x10_1).f0) == 1) = false := beq_eq_false_iff_ne.mpr c24
        have c24b1 : (((rd_T70 l1 x10_1).f0) != 1) = true := bne_iff_ne.mpr c24
        by_cases c32 : 0 ≤ ((rd_T70 l1 x10_1).f1)
        ·rw [if_pos c32] at H
         have c32b0 := eq_true c32
         have c32b1 : decide (0 ≤ ((rd_T70 l1 x10_1).f1)) = true := decide_eq_true c32
         clear c32
         by_cases c33 : ((rd_T70 l1 x10_1).f1) ≤ (x0_1.length : Int)
         ·rw [if_pos c33] at H
          have c33b0 := eq_true c33
          have c33b1 : decide (((rd_T70 l1 x10_1).f1) ≤ (x0_1.length : Int)) = true := decide_eq_true c33
          clear c33
          obtain ⟨y179, hy179⟩ : ∃ y_ : List (S84), y_ = (x0_1.drop (((rd_T70 l1 x10_1).f1) : Int).toNat) := ⟨_, rfl⟩
          replace H : (delta_Raw.l0 k1 y179 x5_1 l1 (l1.length : Int) (wrap64 (x10_1 + 1))) = some r := by first | (rw [hy179]; with_reducible exact H) | (have H2_ := (Option.bind_some _ _).symm.trans H; rw [hy179]; with_reducible exact H2_) | (have H2_ := (Option.bind_some _ _).symm.trans H; with_reducible exact H2_) | with_reducible exact H | (rw [hy179]; exact H) | exact H
          have Ny179 := Aside0.mk hy179
          clear hy179
          have H' := Aside0.mk H
          clear H
          have p155 : 0 ≤ (x10_1 : Int) := of_decide_eq_true (by assumption)
          have q155 : x10_1 < (l1.length : Int) := of_decide_eq_true (by assumption)
          obtain ⟨ad155, A155_2, c155_2, A155_3, c155_3, e155, hx155_0, hx155_1, hx155_2, hx155_3, hl155_2, hi155_2, hl155_3, hi155_3⟩ := at_T70 HR1.out x10_1 p155 q155
          cases e155
          replace hx155_0 := (HB.out.cell (World.block_lt_of_cell? w _ hx155_0)).trans hx155_0
          replace hx155_1 := (HB.out.cell (World.block_lt_of_cell? w _ hx155_1)).trans hx155_1
          replace hx155_2 := (HB.out.cell (World.block_lt_of_cell? w _ hx155_2)).trans hx155_2
          replace hx155_3 := (HB.out.cell (World.block_lt_of_cell? w _ hx155_3)).trans hx155_3
          have HR155_2 := Aside0.mk hi155_2
          have HC155_2 := Aside0.mk hl155_2
          clear hi155_2 hl155_2
          have HR155_3 := Aside0.mk hi155_3
          have HC155_3 := Aside0.mk hl155_3
          clear hi155_3 hl155_3
          replace p155 := eq_true p155
          replace q155 := eq_true q155
          go_wp2_with (first | ((with_reducible refine gate_dst (N := 7) rfl ?_); refine box_event ?hg (N := 7) ?hd (cs := #[.int .i64 0, .int .i64 0, .slice none 0 0, .slice none 0 0]) (t := 70) ?hr ?_; (case hd => rfl); (case hg => rfl); (case hr => first | (go_simp; done) | (go_simp; rfl)); intro gb156 hg w34 hbox hb; have n0_ := Aside0.mk (Kd.V_below (Kd.V_elderB (by (with_reducible repeat (first | apply Kd.V_alloc | apply Kd.V_drewN | apply Kd.V_drew)); exact HO_0.out) gb156 (Nat.le_of_eq hg.symm)) hb); have n1_ := Aside0.mk (Kd.N_below (Kd.N_elderB (by (with_reducible repeat (first | apply Kd.N_alloc | apply Kd.N_drewN | apply Kd.N_drew)); exact HO_5.out) gb156 (Nat.le_of_eq hg.symm)) hb); have n2_ := Aside0.mk (below_step (by with_reducible repeat first | exact HB.out | apply below_alloc | apply pw_below_drewN | apply below_drew1) hb); have n3_ := Aside0.mk (hbox); have n4_ := Aside0.mk ((by rw [hg]; exact (below_size (by with_reducible repeat first | exact HB.out | apply below_alloc | apply pw_below_drewN | apply below_drew1)) : w.heap.size ≤ gb156)); have n5_ := Aside0.mk ((by rw [hg]; exact (below_size (by with_reducible repeat first | exact HB.out | apply below_alloc | apply pw_below_drewN | apply below_drew1)) : w.heap.size ≤ gb156)); clear HO_0; clear HO_5; clear HB; have HO_0 := n0_; have HO_5 := n1_; have HB := n2_; have BK156 := n3_; have GW156 := n4_; have GE156 := n5_; clear n0_ n1_ n2_ n3_ n4_ n5_; clear hb hbox hg; have hcz35_0 : w34.cell? ⟨gb156, 0, none⟩ = some (.int .i64 0) := (blk_cell BK156.out 0).trans rfl; have hcz35_1 : w34.cell? ⟨gb156, 1, none⟩ = some (.int .i64 0) := (blk_cell BK156.out 1).trans rfl; have hcz35_2 : w34.cell? ⟨gb156, 2, none⟩ = some (.slice none 0 0) := (blk_cell BK156.out 2).trans rfl; have hcz35_3 : w34.cell? ⟨gb156, 3, none⟩ = some (.slice none 0 0) := (blk_cell BK156.out 3).trans rfl; have hfz35_0 := blk_frozen BK156.out 0; have hfz35_1 := blk_frozen BK156.out 1; have hfz35_2 := blk_frozen BK156.out 2; have hfz35_3 := blk_frozen BK156.out 3) | ((with_reducible refine gate_store (t := 70) (p := 7) rfl ?_); refine store_event (t := 70) (p := 7) (v := ?vo_w36) (w1 := ((((w34.setCell ⟨gb156, 0, none⟩ (.int .i64 ((rd_T70 l1 x10_1).f0))).setCell ⟨gb156, 1, none⟩ (.int .i64 ((rd_T70 l1 x10_1).f1))).setCell ⟨gb156, 2, none⟩ (.slice A155_2 ((rd_T70 l1 x10_1).f2).length c155_2)).setCell ⟨gb156, 3, none⟩ (.slice A155_3 ((rd_T70 l1 x10_1).f3).length c155_3))) ?hg ?ho ?hn ?hr ?_; (case ho => rfl); (case hg => rfl); (case hn => rfl); (case hr => first | (go_simp; done) | (go_simp; rfl)); intro w36 hw; have n0_ : Aside0 (Kd.V k84 84 w36 w.heap.size (fun k_ => (P0_ k_ ∨ w.heap.size ≤ k_) ∧ some k_ ≠ (u5 : Value).ownBlock ∧ k_ ≠ gb156) u0 x0_1) := ⟨(by rw [hw]; exact (by (with_reducible repeat (first | apply Kd.V_alloc | apply Kd.V_drewN | apply Kd.V_drew)); exact Kd.V_mono (Kd.V_far (p := ⟨gb156, 3, none⟩) (Kd.V_far (p := ⟨gb156, 2, none⟩) (Kd.V_far (p := ⟨gb156, 1, none⟩) (Kd.V_far (p := ⟨gb156, 0, none⟩) (Kd.V_mono HO_0.out (fun k_ hk => (⟨hk, hk.2⟩ : _ ∧ k_ ≠ gb156))) (fun _ hk => hk.2) (.int .i64 ((rd_T70 l1 x10_1).f0))) (fun _ hk => hk.2) (.int .i64 ((rd_T70 l1 x10_1).f1))) (fun _ hk => hk.2) (.slice A155_2 ((rd_T70 l1 x10_1).f2).length c155_2)) (fun _ hk => hk.2) (.slice A155_3 ((rd_T70 l1 x10_1).f3).length c155_3)) (fun _ hk => ⟨hk.1.1.1, ⟨hk.1.1.2, hk.1.2⟩⟩)))⟩; have n1_ : Aside0 (Kd.N k84 84 w36 w.heap.size (fun k_ => (P0_ k_ ∨ w.heap.size ≤ k_) ∧ k_ ≠ gb156) u5 x5_1) := ⟨(by rw [hw]; exact (by (with_reducible repeat (first | apply Kd.N_alloc | apply Kd.N_drewN | apply Kd.N_drew)); exact Kd.N_mono (Kd.N_far (p := ⟨gb156, 3, none⟩) (Kd.N_far (p := ⟨gb156, 2, none⟩) (Kd.N_far (p := ⟨gb156, 1, none⟩) (Kd.N_far (p := ⟨gb156, 0, none⟩) (Kd.N_mono HO_5.out (fun k_ hk => (⟨hk, hk.2⟩ : _ ∧ k_ ≠ gb156))) (fun _ hk => hk.2) (.int .i64 ((rd_T70 l1 x10_1).f0))) (fun _ hk => hk.2) (.int .i64 ((rd_T70 l1 x10_1).f1))) (fun _ hk => hk.2) (.slice A155_2 ((rd_T70 l1 x10_1).f2).length c155_2)) (fun _ hk => hk.2) (.slice A155_3 ((rd_T70 l1 x10_1).f3).length c155_3)) (fun _ hk => ⟨hk.1.1, hk.1.2⟩)))⟩; have n2_ : Aside0 (w36.heap[gb156]? = some (.cells #[.int .i64 ((rd_T70 l1 x10_1).f0), .int .i64 ((rd_T70 l1 x10_1).f1), .slice A155_2 ((rd_T70 l1 x10_1).f2).length c155_2, .slice A155_3 ((rd_T70 l1 x10_1).f3).length c155_3] 70 (0, 0))) := ⟨(by rw [hw]; exact (by (with_reducible repeat (first | refine blk_drewN ?_ _ | refine blk_drew ?_ | refine blk_alloc ?_ _)); refine blk_put (cs := #[.int .i64 ((rd_T70 l1 x10_1).f0), .int .i64 ((rd_T70 l1 x10_1).f1), .slice A155_2 ((rd_T70 l1 x10_1).f2).length c155_2, .slice none 0 0]) ?_ 3 _ rfl; (with_reducible repeat (first | refine blk_drewN ?_ _ | refine blk_drew ?_ | refine blk_alloc ?_ _)); refine blk_put (cs := #[.int .i64 ((rd_T70 l1 x10_1).f0), .int .i64 ((rd_T70 l1 x10_1).f1), .slice none 0 0, .slice none 0 0]) ?_ 2 _ rfl; (with_reducible repeat (first | refine blk_drewN ?_ _ | refine blk_drew ?_ | refine blk_alloc ?_ _)); refine blk_put (cs := #[.int .i64 ((rd_T70 l1 x10_1).f0), .int .i64 0, .slice none 0 0, .slice none 0 0]) ?_ 1 _ rfl; (with_reducible repeat (first | refine blk_drewN ?_ _ | refine blk_drew ?_ | refine blk_alloc ?_ _)); refine blk_put (cs := #[.int .i64 0, .int .i64 0, .slice none 0 0, .slice none 0 0]) ?_ 0 _ rfl; (with_reducible repeat (first | refine blk_drewN ?_ _ | refine blk_drew ?_ | refine blk_alloc ?_ _)); exact BK156.out))⟩; have n3_ : Aside0 (Below w.heap.size w w36) := ⟨(by rw [hw]; exact (by repeat (first | (with_reducible first | exact HB.out | apply below_alloc | apply pw_below_drewN | apply below_drew1 | refine below_set ?_ GE156.out) | exact HB.out)))⟩; clear hw; clear HO_0; clear HO_5; clear BK156; clear HB; have HO_0 := n0_; have HO_5 := n1_; have BK156 := n2_; have HB := n3_; clear n0_ n1_ n2_ n3_; have hcz37_0 : w36.cell? ⟨gb156, 0, none⟩ = some (.int .i64 ((rd_T70 l1 x10_1).f0)) := (blk_cell BK156.out 0).trans rfl; have hcz37_1 : w36.cell? ⟨gb156, 1, none⟩ = some (.int .i64 ((rd_T70 l1 x10_1).f1)) := (blk_cell BK156.out 1).trans rfl; have hcz37_2 : w36.cell? ⟨gb156, 2, none⟩ = some (.slice A155_2 ((rd_T70 l1 x10_1).f2).length c155_2) := (blk_cell BK156.out 2).trans rfl; have hcz37_3 : w36.cell? ⟨gb156, 3, none⟩ = some (.slice A155_3 ((rd_T70 l1 x10_1).f3).length c155_3) := (blk_cell BK156.out 3).trans rfl; have hfz37_0 := blk_frozen BK156.out 0; have hfz37_1 := blk_frozen BK156.out 1; have hfz37_2 := blk_frozen BK156.out 2; have hfz37_3 := blk_frozen BK156.out 3; obtain ⟨Ao39, co39, eo39⟩ := Kd.V_slice HO_0.out; subst eo39; have q38 : (((rd_T70 l1 x10_1).f1) : Int) ≤ ((x0_1.length : Int) : Int) := of_decide_eq_true (by assumption); obtain ⟨i038, hi038, _, hsz38, _⟩ := info_parts info84; have hroom38 : x0_1.length ≤ co39 := (Kd.V_reads' HO_0.out).2.1; have hC38 : Kd.F k84 _ _ Ao39 x0_1.length x0_1 := (Kd.V_at (base := w.heap.size) HO_0.out).2.2; have q038 : (0 : Int) ≤ (((rd_T70 l1 x10_1).f1) : Int) := of_decide_eq_true (by assumption); have hcut38 := cut_from (P := Try.prog) 63 84 .i64 Try.underlying63 hi038 3 hsz38 Ao39 x0_1.length co39 ((rd_T70 l1 x10_1).f1) q038 q38; have hr38 := Kd.F_cut (m := (((rd_T70 l1 x10_1).f1) : Int).toNat) (c := co39) hC38 (by omega) hroom38; obtain ⟨A38, hA38⟩ : ∃ A1, A1 = (if co39 = (((rd_T70 l1 x10_1).f1) : Int).toNat then Ao39 else (Ao39 : Option Addr).map (·.add ((((rd_T70 l1 x10_1).f1) : Int).toNat * 3))) := ⟨_, rfl⟩; obtain ⟨c38, hc38⟩ : ∃ c1, c1 = co39 - (((rd_T70 l1 x10_1).f1) : Int).toNat := ⟨_, rfl⟩; have hy38 : y179.length = x0_1.length - (((rd_T70 l1 x10_1).f1) : Int).toNat := (by rw [Ny179.out, List.length_drop] <;> omega); rw [show (x0_1).drop (((rd_T70 l1 x10_1).f1) : Int).toNat = y179 from Ny179.out.symm] at hr38; replace hr38 : Kd.F k84 _ _ A38 y179.length y179 := (by rw [hA38]; exact hr38); rw [← hy38, ← hA38, ← hc38] at hcut38; have HO183 := Aside0.mk (show Kd.V k84 84 _ w.heap.size _ (.slice A38 y179.length c38) y179 from Kd.V_mk (by rw [hy38, hc38]; exact Nat.sub_le_sub_right hroom38 _) hr38); have HC183 := Aside0.mk (show y179.length ≤ c38 from by rw [hy38, hc38]; exact Nat.sub_le_sub_right hroom38 _); clear hr38 hC38 hroom38 hi038 hsz38 hc38; have KY38 := Aside0.mk hy38; have KA38 := Aside0.mk hA38; clear hy38 hA38; replace q38 := eq_true q38))
          go_roundg k1
          case measure => have := HK1.out; omega
          case rel => exact ⟨(y179), (x5_1), (wrap64 (x10_1 + 1)), (by first | rfl | (simp; done) | (simp [*]; done)), H', ⟨by have := HK1.out; omega⟩, ⟨by (with_reducible repeat (first | apply Kd.V_alloc | apply Kd.V_drewN | apply Kd.V_drew)); exact Kd.V_mono HO183.out (fun _ hk => ⟨hk.1, hk.2.1⟩)⟩, ⟨by (with_reducible repeat (first | apply Kd.N_alloc | apply Kd.N_drewN | apply Kd.N_drew)); exact Kd.N_mono HO_5.out (fun _ hk => hk.1)⟩, ⟨by repeat (first | (with_reducible first | exact HB.out | apply below_alloc | apply pw_below_drewN | apply below_drew1 | refine below_set ?_ GE156.out) | exact HB.out)⟩⟩
         ·rw [if_neg c33] at H
          exact absurd H (by simp)
        ·rw [if_neg c32] at H
         exact absurd H (by simp)
     ·rw [if_neg c5] at H
      exact absurd H (by simp)
    ·rw [if_neg c4] at H
     exact absurd H (by simp)
   ·rw [if_neg c3] at H
    have c3b0 : decide (x10_1 < (l1.length : Int)) = false := decide_eq_false c3
    clear c3
    obtain rfl := Option.some.inj H
    go_wp2
    go_ret
    exact ⟨_, by first | rfl | (simp [errW_none, errW_some] <;> rfl) | (simp [*, errW_none, errW_some] <;> rfl), by (with_reducible repeat (first | apply Kd.N_alloc | apply Kd.N_drewN | apply Kd.N_drew)); exact HO_5.out, by repeat (first | (with_reducible first | exact HB.out | apply below_alloc | apply pw_below_drewN | apply below_drew1) | exact HB.out)⟩
def delta_Apply.f (k : Nat) (l0 : List (S84)) (l1 : List (S70)) : Option ((List (S84)) × Int) := (delta_fits.f k l0 l1).bind fun t184 => (if t184 = 0 then ((delta_Raw.f k l0 l1).bind fun t185 => (some (t185, 0))) else (some (([] : List (S84)), t184)))
set_option maxHeartbeats 8000000 in
set_option maxRecDepth 100000 in
theorem delta_Apply.calls (k : Nat) (P0_ : Nat → Prop) (A0 : Option Addr) (c0 : Nat) (l0 : List (S84)) (A1 : Option Addr) (c1 : Nat) (l1 : List (S70)) (r1 : List (S84)) (r2 : Int) (w : World) (hs0 : Kd.V k84 84 w w.heap.size (fun k_ => P0_ k_) (.slice A0 l0.length c0) l0) (hr1 : Kd.C k70 w A1 l1.length l1) (hc1 : l1.length ≤ c1) (h : delta_Apply.f k l0 l1 = some (r1, r2)) :
  Calls Try.prog 48 #[.slice A0 l0.length c0, .slice A1 l1.length c1] w fun e w' => ∃ v0_ : Value, e = .returned (.tuple #[v0_, .int .i64 r2]) ∧ Kd.N k84 84 w' w.heap.size (fun k_ => (P0_ k_ ∨ w.heap.size ≤ k_)) v0_ r1 ∧ Below w.heap.size w w' := by
 have HO0 := Aside0.mk (show Kd.V k84 84 w w.heap.size (fun k_ => (P0_ k_ ∨ w.heap.size ≤ k_)) (.slice A0 l0.length c0) l0 from Kd.V_mono hs0 (fun k_ hk => .inl hk))
 have HR1 := Aside0.mk hr1
 have HC1 := Aside0.mk hc1
 clear hr1 hc1
 have HB := Aside0.mk (Below.refl w.heap.size w)
 have H : ((delta_fits.f k l0 l1).bind fun t184 => (if t184 = 0 then ((delta_Raw.f k l0 l1).bind fun t185 => (some (t185, 0))) else (some (([] : List (S84)), t184)))) = some (r1, r2) := h
 clear h
 replace H := Option.bind_eq_some_iff.mp H
 obtain ⟨t184, A30, H⟩ := H
 replace H : (if t184 = 0 then ((delta_Raw.f k l0 l1).bind fun t185 => (some (t185, 0))) else (some (([] : List (S84)), t184))) = some (r1, r2) := H
 have A3 := Aside0.mk A30
 clear A30
 by_cases c4 : t184 = 0
 ·rw [if_pos c4] at H
  have c4b0 : (t184 == 0) = true := beq_iff_eq.mpr c4
  have c4b1 : (t184 != 0) = false := bne_eq_false_iff_eq.mpr c4
  clear c4
  replace H := Option.bind_eq_some_iff.mp H
  obtain ⟨t185, A50, H⟩ := H
  replace H : (some (t185, 0)) = some (r1, r2) := H
  have A5 := Aside0.mk A50
  clear A50
  simp only [Option.some.injEq, Prod.mk.injEq] at H
  obtain ⟨rfl, rfl⟩ := H
  go_enter Try.func48, Try.ntmps48
  go_wp2_with (first | ((with_reducible refine gate_callee (f := 90) rfl ?_); refine goesL_ (some 9) rfl rfl Try.func90 (by kernel_rfl) rfl #[.slice A0 l0.length c0, .slice A1 l1.length c1] rfl (by (try simp only [List.map_toArray, List.map_cons, List.map_nil]); first | done | rfl | (simp only [List.length_drop, List.length_take]; rfl)) ?_; (with_reducible refine (delta_fits.calls k _ _ l0 _ _ l1 t184 _ ?side1 ?side2 ?side3 ?side4 A3.out).mono ?_); (case side1 => repeat (first | exact (Kd.V_reads' HO0.out).2.2 | (with_reducible refine Kd.C_alloc ?_ _) | (with_reducible refine Kd.C_drewN ?_ _) | (with_reducible refine Kd.C_drew ?_))); (case side2 => exact (Kd.V_reads' HO0.out).2.1); (case side3 => repeat (first | exact HR1.out | (with_reducible refine Kd.C_alloc ?_ _) | (with_reducible refine Kd.C_drewN ?_ _) | (with_reducible refine Kd.C_drew ?_))); (case side4 => exact HC1.out); rintro e w6 ⟨rfl, hb⟩; refine ⟨_, rfl, ?_⟩; have n0_ := Aside0.mk (Kd.V_below (by (with_reducible repeat (first | apply Kd.V_alloc | apply Kd.V_drewN | apply Kd.V_drew)); exact HO0.out) hb); have n1_ := Aside0.mk (below_step (by with_reducible repeat first | exact HB.out | apply below_alloc | apply pw_below_drewN | apply below_drew1) hb); clear HO0; clear HB; have HO0 := n0_; have HB := n1_; clear n0_ n1_; (try clear hb); (try clear hb2); (try clear hk); (try clear hi)) | ((with_reducible refine gate_callee (f := 91) rfl ?_); refine goesL_ (some 15) rfl rfl Try.func91 (by kernel_rfl) rfl #[.slice A0 l0.length c0, .slice A1 l1.length c1] rfl (by (try simp only [List.map_toArray, List.map_cons, List.map_nil]); first | done | rfl | (simp only [List.length_drop, List.length_take]; rfl)) ?_; (with_reducible refine (delta_Raw.calls k (fun k_ => (P0_ k_ ∨ w.heap.size ≤ k_)) _ _ l0 _ _ l1 t185 _ ?side1 ?side2 ?side3 A5.out).mono ?_); (case side1 => exact HO0.out); (case side2 => repeat (first | exact (Kd.C_below HR1.out HB.out) | (with_reducible refine Kd.C_alloc ?_ _) | (with_reducible refine Kd.C_drewN ?_ _) | (with_reducible refine Kd.C_drew ?_))); (case side3 => exact HC1.out); rintro e w7 ⟨v186, rfl, ho0, hb⟩; refine ⟨_, rfl, ?_⟩; have n0_ := Aside0.mk (Kd.V_elder' (by (with_reducible repeat (first | apply Kd.V_alloc | apply Kd.V_drewN | apply Kd.V_drew)); exact HO0.out) (Kd.N_base (by first | exact ho0 | exact Kd.S_N ho0)) hb); have n1_ := Aside0.mk (Kd.N_lower (Kd.N_mono (ok' := fun k_ => (P0_ k_ ∨ w.heap.size ≤ k_)) ho0 (fun k_ hk_ => Or.elim hk_ (fun hs_ => hs_) (fun hn_ => (.inr (Nat.le_trans (below_size (by with_reducible repeat first | exact HB.out | apply below_alloc | apply pw_below_drewN | apply below_drew1)) hn_))))) (below_size (by with_reducible repeat first | exact HB.out | apply below_alloc | apply pw_below_drewN | apply below_drew1))); have n2_ := Aside0.mk (below_step (by with_reducible repeat first | exact HB.out | apply below_alloc | apply pw_below_drewN | apply below_drew1) hb); clear HO0; clear HB; have HO0 := n0_; have HO187 := n1_; have HB := n2_; clear n0_ n1_ n2_; (try clear hb); (try clear hb2); (try clear hk); (try clear hi); (try clear ho0)))
  go_ret2
  exact ⟨_, by first | rfl | (simp [errW_none, errW_some] <;> rfl) | (simp [*, errW_none, errW_some] <;> rfl), by (with_reducible repeat (first | apply Kd.N_alloc | apply Kd.N_drewN | apply Kd.N_drew)); exact HO187.out, by repeat (first | (with_reducible first | exact HB.out | apply below_alloc | apply pw_below_drewN | apply below_drew1) | exact HB.out)⟩
 ·rw [if_neg c4] at H
  have c4b0 : (t184 == 0) = false := beq_eq_false_iff_ne.mpr c4
  have c4b1 : (t184 != 0) = true := bne_iff_ne.mpr c4
  simp only [Option.some.injEq, Prod.mk.injEq] at H
  obtain ⟨rfl, rfl⟩ := H
  go_enter Try.func48, Try.ntmps48
  go_wp2_with (first | ((with_reducible refine gate_callee (f := 90) rfl ?_); refine goesL_ (some 9) rfl rfl Try.func90 (by kernel_rfl) rfl #[.slice A0 l0.length c0, .slice A1 l1.length c1] rfl (by (try simp only [List.map_toArray, List.map_cons, List.map_nil]); first | done | rfl | (simp only [List.length_drop, List.length_take]; rfl)) ?_; (with_reducible refine (delta_fits.calls k _ _ l0 _ _ l1 t184 _ ?side1 ?side2 ?side3 ?side4 A3.out).mono ?_); (case side1 => repeat (first | exact (Kd.V_reads' HO0.out).2.2 | (with_reducible refine Kd.C_alloc ?_ _) | (with_reducible refine Kd.C_drewN ?_ _) | (with_reducible refine Kd.C_drew ?_))); (case side2 => exact (Kd.V_reads' HO0.out).2.1); (case side3 => repeat (first | exact HR1.out | (with_reducible refine Kd.C_alloc ?_ _) | (with_reducible refine Kd.C_drewN ?_ _) | (with_reducible refine Kd.C_drew ?_))); (case side4 => exact HC1.out); rintro e w8 ⟨rfl, hb⟩; refine ⟨_, rfl, ?_⟩; have n0_ := Aside0.mk (Kd.V_below (by (with_reducible repeat (first | apply Kd.V_alloc | apply Kd.V_drewN | apply Kd.V_drew)); exact HO0.out) hb); have n1_ := Aside0.mk (below_step (by with_reducible repeat first | exact HB.out | apply below_alloc | apply pw_below_drewN | apply below_drew1) hb); clear HO0; clear HB; have HO0 := n0_; have HB := n1_; clear n0_ n1_; (try clear hb); (try clear hb2); (try clear hk); (try clear hi)))
  go_ret2
  exact ⟨_, by first | rfl | (simp [errW_none, errW_some] <;> rfl) | (simp [*, errW_none, errW_some] <;> rfl), by first | exact Kd.S_nil _ _ _ _ _ | exact Kd.N_nil _ _ _ _ _ | exact Kd.V_nil _ _ _ _ _ | exact Kd.Q_nil _ _ _ _ _ | exact Kd.R_nil _ _ _ _ _, by repeat (first | (with_reducible first | exact HB.out | apply below_alloc | apply pw_below_drewN | apply below_drew1) | exact HB.out)⟩
def chanceryref1_SameAttrs.l0 : Nat → List (S38) → List (S38) → Int → Int → Option (Bool)
 | 0, _, _, _, _ => none
 | k + 1, x0, x1, x12, x13 => if x13 < x12 then (if 0 ≤ x13 then (if x13 < (x0.length : Int) then (if x13 < (x1.length : Int) then (if (!((((rd_T38 x0 x13).f0).toList) == (((rd_T38 x1 x13).f0).toList)) || (!((((rd_T38 x0 x13).f1).toList) == (((rd_T38 x1 x13).f1).toList)))) = true then (some false) else (chanceryref1_SameAttrs.l0 k x0 x1 x12 (wrap64 (x13 + 1)))) else (none)) else (none)) else (none)) else (some true)
def chanceryref1_SameAttrs.f (k : Nat) (l0 : List (S38)) (l1 : List (S38)) : Option (Bool) := if (l0.length : Int) = (l1.length : Int) then (chanceryref1_SameAttrs.l0 k l0 l1 (l0.length : Int) 0) else (some false)
set_option maxHeartbeats 8000000 in
set_option maxRecDepth 100000 in
theorem chanceryref1_SameAttrs.calls (k : Nat) (A0 : Option Addr) (c0 : Nat) (l0 : List (S38)) (A1 : Option Addr) (c1 : Nat) (l1 : List (S38)) (r : Bool) (w : World) (hr0 : Kd.C k38 w A0 l0.length l0) (hc0 : l0.length ≤ c0) (hr1 : Kd.C k38 w A1 l1.length l1) (hc1 : l1.length ≤ c1) (h : chanceryref1_SameAttrs.f k l0 l1 = some r) :
  Calls Try.prog 25 #[.slice A0 l0.length c0, .slice A1 l1.length c1] w fun e w' => e = .returned (.bool r) ∧ Drawn0 w w' := by
 have hu38 := Try.underlying38
 have HR0 := Aside0.mk hr0
 have HC0 := Aside0.mk hc0
 clear hr0 hc0
 have HR1 := Aside0.mk hr1
 have HC1 := Aside0.mk hc1
 clear hr1 hc1
 have H : (if (l0.length : Int) = (l1.length : Int) then (chanceryref1_SameAttrs.l0 k l0 l1 (l0.length : Int) 0) else (some false)) = some r := h
 clear h
 by_cases c3 : (l0.length : Int) = (l1.length : Int)
 ·rw [if_pos c3] at H
  have c3b0 : ((l0.length : Int) == (l1.length : Int)) = true := beq_iff_eq.mpr c3
  have c3b1 : ((l0.length : Int) != (l1.length : Int)) = false := bne_eq_false_iff_eq.mpr c3
  have c3b2 : (l0.length == l1.length) = true := by first | simpa using c3 | (simp at c3 ⊢; omega)
  clear c3
  have H' := Aside0.mk H
  clear H
  go_enter Try.func25, Try.ntmps25
  go_wp2
  repeat (go_quiet (fail); try go_wp2)
  go_loopg [13] k (fun kq v13 w' => ∃ (x13_1 : Int), v13 = .int .i64 x13_1 ∧ Aside0 (chanceryref1_SameAttrs.l0 kq l0 l1 (l0.length : Int) x13_1 = some r) ∧ Aside0 (kq ≤ k) ∧ Drawn0 w w')
  case atStart => exact ⟨(0), (by first | rfl | (simp; done) | (simp [*]; done)), H', ⟨Nat.le_refl _⟩, by repeat (first | exact Drawn0.refl _ | apply Drawn0.step)⟩
  case round =>
   clear H'
   try clear c1
   try clear c2
   try clear p2
   try clear c3
   try clear c3b0
   try clear c3b1
   try clear c3b2
   obtain ⟨x13_1, rfl, HA, HK1, ⟨m1, rfl⟩⟩ := hrel
   cases gk with
   | zero => exact absurd HA.out (by simp [chanceryref1_SameAttrs.l0])
   | succ k1 =>
    have H := HA.out
    clear HA
    simp only [chanceryref1_SameAttrs.l0] at H
    by_cases c4 : x13_1 < (l0.length : Int)
    ·rw [if_pos c4] at H
     have c4b0 : decide (x13_1 < (l0.length : Int)) = true := decide_eq_true c4
     clear c4
     by_cases c5 : 0 ≤ x13_1
     ·rw [if_pos c5] at H
      have c5b0 : decide (0 ≤ x13_1) = true := decide_eq_true c5
      clear c5
      by_cases c6 : x13_1 < (l0.length : Int)
      ·rw [if_pos c6] at H
       have c6b0 : decide (x13_1 < (l0.length : Int)) = true := decide_eq_true c6
       clear c6
       by_cases c7 : x13_1 < (l1.length : Int)
       ·rw [if_pos c7] at H
        have c7b0 : decide (x13_1 < (l1.length : Int)) = true := decide_eq_true c7
        clear c7
        by_cases c8 : (!((((rd_T38 l0 x13_1).f0).toList) == (((rd_T38 l1 x13_1).f0).toList)) || (!((((rd_T38 l0 x13_1).f1).toList) == (((rd_T38 l1 x13_1).f1).toList)))) = true
        ·rw [if_pos c8] at H
         have c8b0 : (!((((rd_T38 l0 x13_1).f0).toList) == (((rd_T38 l1 x13_1).f0).toList)) || (!((((rd_T38 l0 x13_1).f1).toList) == (((rd_T38 l1 x13_1).f1).toList)))) = true := c8
         clear c8
         obtain rfl := Option.some.inj H
         have p188 : 0 ≤ (x13_1 : Int) := of_decide_eq_true (by assumption)
         have q188 : x13_1 < (l0.length : Int) := of_decide_eq_true (by assumption)
         obtain ⟨ad188, e188, hx188_0, hx188_1⟩ := at_T38 HR0.out x13_1 p188 q188
         cases e188
         replace p188 := eq_true p188
         replace q188 := eq_true q188
         have p189 : 0 ≤ (x13_1 : Int) := of_decide_eq_true (by assumption)
         have q189 : x13_1 < (l1.length : Int) := of_decide_eq_true (by assumption)
         obtain ⟨ad189, e189, hx189_0, hx189_1⟩ := at_T38 HR1.out x13_1 p189 q189
         cases e189
         replace p189 := eq_true p189
         replace q189 := eq_true q189
         go_wp2
         repeat (go_quiet (fail); try go_wp2)
         go_ret
         exact ⟨by first | rfl | (simp; done) | (simp [*]; done), by repeat (first | exact Drawn0.refl _ | apply Drawn0.step)⟩
        ·rw [if_neg c8] at H
         have c8b0 : (!((((rd_T38 l0 x13_1).f0).toList) == (((rd_T38 l1 x13_1).f0).toList)) || (!((((rd_T38 l0 x13_1).f1).toList) == (((rd_T38 l1 x13_1).f1).toList)))) = false := by simpa using c8
         clear c8
         have H' := Aside0.mk H
         clear H
         have p188 : 0 ≤ (x13_1 : Int) := of_decide_eq_true (by assumption)
         have q188 : x13_1 < (l0.length : Int) := of_decide_eq_true (by assumption)
         obtain ⟨ad188, e188, hx188_0, hx188_1⟩ := at_T38 HR0.out x13_1 p188 q188
         cases e188
         replace p188 := eq_true p188
         replace q188 := eq_true q188
         have p189 : 0 ≤ (x13_1 : Int) := of_decide_eq_true (by assumption)
         have q189 : x13_1 < (l1.length : Int) := of_decide_eq_true (by assumption)
         obtain ⟨ad189, e189, hx189_0, hx189_1⟩ := at_T38 HR1.out x13_1 p189 q189
         cases e189
         replace p189 := eq_true p189
         replace q189 := eq_true q189
         go_wp2
         repeat (go_quiet (fail); try go_wp2)
         go_roundg k1
         case measure => have := HK1.out; omega
         case rel => exact ⟨(wrap64 (x13_1 + 1)), (by first | rfl | (simp; done) | (simp [*]; done)), H', ⟨by have := HK1.out; omega⟩, by repeat (first | exact Drawn0.refl _ | apply Drawn0.step)⟩
       ·rw [if_neg c7] at H
        exact absurd H (by simp)
      ·rw [if_neg c6] at H
       exact absurd H (by simp)
     ·rw [if_neg c5] at H
      exact absurd H (by simp)
    ·rw [if_neg c4] at H
     have c4b0 : decide (x13_1 < (l0.length : Int)) = false := decide_eq_false c4
     clear c4
     obtain rfl := Option.some.inj H
     go_wp2
     repeat (go_quiet (fail); try go_wp2)
     go_ret
     exact ⟨by first | rfl | (simp; done) | (simp [*]; done), by repeat (first | exact Drawn0.refl _ | apply Drawn0.step)⟩
 ·rw [if_neg c3] at H
  have c3b0 : ((l0.length : Int) == (l1.length : Int)) = false := beq_eq_false_iff_ne.mpr c3
  have c3b1 : ((l0.length : Int) != (l1.length : Int)) = true := bne_iff_ne.mpr c3
  have c3b2 : (l0.length == l1.length) = false := by first | simpa using c3 | (simp at c3 ⊢; omega)
  obtain rfl := Option.some.inj H
  go_enter Try.func25, Try.ntmps25
  go_wp2
  repeat (go_quiet (fail); try go_wp2)
  go_ret
  exact ⟨by first | rfl | (simp; done) | (simp [*]; done), by repeat (first | exact Drawn0.refl _ | apply Drawn0.step)⟩
def chanceryref1_SameElem.f (k : Nat) (a0_0 : Int) (a0_1 : Int) (l0_2 : List (S38)) (a1_0 : Int) (a1_1 : Int) (l1_2 : List (S38)) : Option (Bool) := if a0_0 = a1_0 then (if a0_1 = a1_1 then ((chanceryref1_SameAttrs.f k l0_2 l1_2).bind fun t192 => (some t192)) else (some false)) else (some false)
set_option maxHeartbeats 8000000 in
set_option maxRecDepth 100000 in
theorem chanceryref1_SameElem.calls (k : Nat) (a0_0 : Int) (a0_1 : Int) (A0_2 : Option Addr) (c0_2 : Nat) (l0_2 : List (S38)) (a1_0 : Int) (a1_1 : Int) (A1_2 : Option Addr) (c1_2 : Nat) (l1_2 : List (S38)) (r : Bool) (w : World) (hr0_2 : Kd.C k38 w A0_2 l0_2.length l0_2) (hc0_2 : l0_2.length ≤ c0_2) (hr1_2 : Kd.C k38 w A1_2 l1_2.length l1_2) (hc1_2 : l1_2.length ≤ c1_2) (h : chanceryref1_SameElem.f k a0_0 a0_1 l0_2 a1_0 a1_1 l1_2 = some r) :
  Calls Try.prog 92 #[.agg #[.int .i64 a0_0, .int .i64 a0_1, .slice A0_2 l0_2.length c0_2], .agg #[.int .i64 a1_0, .int .i64 a1_1, .slice A1_2 l1_2.length c1_2]] w fun e w' => e = .returned (.bool r) ∧ Below w.heap.size w w' := by
 have hu84 := Try.underlying84
 have HR0_2 := Aside0.mk hr0_2
 have HC0_2 := Aside0.mk hc0_2
 clear hr0_2 hc0_2
 have HR1_2 := Aside0.mk hr1_2
 have HC1_2 := Aside0.mk hc1_2
 clear hr1_2 hc1_2
 have HB := Aside0.mk (Below.refl w.heap.size w)
 have H : (if a0_0 = a1_0 then (if a0_1 = a1_1 then ((chanceryref1_SameAttrs.f k l0_2 l1_2).bind fun t192 => (some t192)) else (some false)) else (some false)) = some r := h
 clear h
 by_cases c3 : a0_0 = a1_0
 ·rw [if_pos c3] at H
  have c3b0 : (a0_0 == a1_0) = true := beq_iff_eq.mpr c3
  have c3b1 : (a0_0 != a1_0) = false := bne_eq_false_iff_eq.mpr c3
  clear c3
  by_cases c4 : a0_1 = a1_1
  ·rw [if_pos c4] at H
   have c4b0 : (a0_1 == a1_1) = true := beq_iff_eq.mpr c4
   have c4b1 : (a0_1 != a1_1) = false := bne_eq_false_iff_eq.mpr c4
   clear c4
   replace H := Option.bind_eq_some_iff.mp H
   obtain ⟨t192, A50, H⟩ := H
   replace H : (some t192) = some r := H
   have A5 := Aside0.mk A50
   clear A50
   obtain rfl := Option.some.inj H
   go_enter Try.func92, Try.ntmps92
   go_wp2_with (first | ((with_reducible refine gate_dst (N := 2) rfl ?_); refine box_event ?hg (N := 2) ?hd (cs := #[.int .i64 a0_0, .int .i64 a0_1, .slice A0_2 l0_2.length c0_2]) (t := 84) ?hr ?_; (case hd => rfl); (case hg => rfl); (case hr => first | (go_simp; done) | (go_simp; rfl)); intro gb190 hg w6 hbox hb; have n0_ := Aside0.mk (below_step (by with_reducible repeat first | exact HB.out | apply below_alloc | apply pw_below_drewN | apply below_drew1) hb); have n1_ := Aside0.mk (hbox); have n2_ := Aside0.mk ((by rw [hg]; exact (below_size (by with_reducible repeat first | exact HB.out | apply below_alloc | apply pw_below_drewN | apply below_drew1)) : w.heap.size ≤ gb190)); have n3_ := Aside0.mk ((by rw [hg]; exact (below_size (by with_reducible repeat first | exact HB.out | apply below_alloc | apply pw_below_drewN | apply below_drew1)) : w.heap.size ≤ gb190)); clear HB; have HB := n0_; have BK190 := n1_; have GW190 := n2_; have GE190 := n3_; clear n0_ n1_ n2_ n3_; clear hb hbox hg) | ((with_reducible refine gate_dst (N := 3) rfl ?_); refine box_event ?hg (N := 3) ?hd (cs := #[.int .i64 a1_0, .int .i64 a1_1, .slice A1_2 l1_2.length c1_2]) (t := 84) ?hr ?_; (case hd => rfl); (case hg => rfl); (case hr => first | (go_simp; done) | (go_simp; rfl)); intro gb191 hg w7 hbox hb; have n0_ := Aside0.mk (blk_below (g := gb190) (o := .cells #[.int .i64 a0_0, .int .i64 a0_1, .slice A0_2 l0_2.length c0_2] 84 (0, 0)) (by (with_reducible repeat (first | refine blk_drewN ?_ _ | refine blk_drew ?_ | refine blk_alloc ?_ _)); exact BK190.out) hb); have n1_ := Aside0.mk (below_step (by repeat (first | (with_reducible first | exact HB.out | apply below_alloc | apply pw_below_drewN | apply below_drew1 | refine below_set ?_ GE190.out) | exact HB.out)) hb); have n2_ := Aside0.mk (hbox); have n3_ := Aside0.mk ((by rw [hg]; exact (below_size (by repeat (first | (with_reducible first | exact HB.out | apply below_alloc | apply pw_below_drewN | apply below_drew1 | refine below_set ?_ GE190.out) | exact HB.out))) : w.heap.size ≤ gb191)); have n4_ := Aside0.mk ((by rw [hg]; exact (below_size (by repeat (first | (with_reducible first | exact HB.out | apply below_alloc | apply pw_below_drewN | apply below_drew1 | refine below_set ?_ GE190.out) | exact HB.out))) : w.heap.size ≤ gb191)); have n5_ := Aside0.mk ((by rw [hg]; exact Nat.ne_of_lt (blk_lt (g := gb190) (o := .cells #[.int .i64 a0_0, .int .i64 a0_1, .slice A0_2 l0_2.length c0_2] 84 (0, 0)) (by (with_reducible repeat (first | refine blk_drewN ?_ _ | refine blk_drew ?_ | refine blk_alloc ?_ _)); exact BK190.out)) : gb190 ≠ gb191)); have n6_ := Aside0.mk ((by rw [hg]; exact Nat.ne_of_gt (blk_lt (g := gb190) (o := .cells #[.int .i64 a0_0, .int .i64 a0_1, .slice A0_2 l0_2.length c0_2] 84 (0, 0)) (by (with_reducible repeat (first | refine blk_drewN ?_ _ | refine blk_drew ?_ | refine blk_alloc ?_ _)); exact BK190.out)) : gb191 ≠ gb190)); clear BK190; clear HB; have BK190 := n0_; have HB := n1_; have BK191 := n2_; have GW191 := n3_; have GE191 := n4_; have NB190_191 := n5_; have NB191_190 := n6_; clear n0_ n1_ n2_ n3_ n4_ n5_ n6_; clear hb hbox hg; have hnb8 := NB190_191.out; have hnc8 := NB191_190.out; have hcz9_0 : w7.cell? ⟨gb190, 0, none⟩ = some (.int .i64 a0_0) := (blk_cell BK190.out 0).trans rfl; have hcz9_1 : w7.cell? ⟨gb190, 1, none⟩ = some (.int .i64 a0_1) := (blk_cell BK190.out 1).trans rfl; have hcz9_2 : w7.cell? ⟨gb190, 2, none⟩ = some (.slice A0_2 l0_2.length c0_2) := (blk_cell BK190.out 2).trans rfl; have hfz9_0 := blk_frozen BK190.out 0; have hfz9_1 := blk_frozen BK190.out 1; have hfz9_2 := blk_frozen BK190.out 2; have hcz10_0 : w7.cell? ⟨gb191, 0, none⟩ = some (.int .i64 a1_0) := (blk_cell BK191.out 0).trans rfl; have hcz10_1 : w7.cell? ⟨gb191, 1, none⟩ = some (.int .i64 a1_1) := (blk_cell BK191.out 1).trans rfl; have hcz10_2 : w7.cell? ⟨gb191, 2, none⟩ = some (.slice A1_2 l1_2.length c1_2) := (blk_cell BK191.out 2).trans rfl; have hfz10_0 := blk_frozen BK191.out 0; have hfz10_1 := blk_frozen BK191.out 1; have hfz10_2 := blk_frozen BK191.out 2) | (go_at_call 25; (with_reducible refine (chanceryref1_SameAttrs.calls k _ _ l0_2 _ _ l1_2 t192 _ ?side1 ?side2 ?side3 ?side4 A5.out).mono ?_); (case side1 => repeat (first | exact (Kd.C_below HR0_2.out HB.out) | (with_reducible refine Kd.C_alloc ?_ _) | (with_reducible refine Kd.C_drewN ?_ _) | (with_reducible refine Kd.C_drew ?_))); (case side2 => exact HC0_2.out); (case side3 => repeat (first | exact (Kd.C_below HR1_2.out HB.out) | (with_reducible refine Kd.C_alloc ?_ _) | (with_reducible refine Kd.C_drewN ?_ _) | (with_reducible refine Kd.C_drew ?_))); (case side4 => exact HC1_2.out); rintro e w' ⟨rfl, ⟨nd, rfl⟩⟩))
   go_ret
   exact ⟨by first | rfl | (simp [errW_none, errW_some] <;> rfl) | (simp [*, errW_none, errW_some] <;> rfl), by repeat (first | (with_reducible first | exact HB.out | apply below_alloc | apply pw_below_drewN | apply below_drew1 | refine below_set ?_ GE190.out | refine below_set ?_ GE191.out) | exact HB.out)⟩
  ·rw [if_neg c4] at H
   have c4b0 : (a0_1 == a1_1) = false := beq_eq_false_iff_ne.mpr c4
   have c4b1 : (a0_1 != a1_1) = true := bne_iff_ne.mpr c4
   obtain rfl := Option.some.inj H
   go_enter Try.func92, Try.ntmps92
   go_wp2_with (first | ((with_reducible refine gate_dst (N := 2) rfl ?_); refine box_event ?hg (N := 2) ?hd (cs := #[.int .i64 a0_0, .int .i64 a0_1, .slice A0_2 l0_2.length c0_2]) (t := 84) ?hr ?_; (case hd => rfl); (case hg => rfl); (case hr => first | (go_simp; done) | (go_simp; rfl)); intro gb190 hg w11 hbox hb; have n0_ := Aside0.mk (below_step (by with_reducible repeat first | exact HB.out | apply below_alloc | apply pw_below_drewN | apply below_drew1) hb); have n1_ := Aside0.mk (hbox); have n2_ := Aside0.mk ((by rw [hg]; exact (below_size (by with_reducible repeat first | exact HB.out | apply below_alloc | apply pw_below_drewN | apply below_drew1)) : w.heap.size ≤ gb190)); have n3_ := Aside0.mk ((by rw [hg]; exact (below_size (by with_reducible repeat first | exact HB.out | apply below_alloc | apply pw_below_drewN | apply below_drew1)) : w.heap.size ≤ gb190)); clear HB; have HB := n0_; have BK190 := n1_; have GW190 := n2_; have GE190 := n3_; clear n0_ n1_ n2_ n3_; clear hb hbox hg) | ((with_reducible refine gate_dst (N := 3) rfl ?_); refine box_event ?hg (N := 3) ?hd (cs := #[.int .i64 a1_0, .int .i64 a1_1, .slice A1_2 l1_2.length c1_2]) (t := 84) ?hr ?_; (case hd => rfl); (case hg => rfl); (case hr => first | (go_simp; done) | (go_simp; rfl)); intro gb191 hg w12 hbox hb; have n0_ := Aside0.mk (blk_below (g := gb190) (o := .cells #[.int .i64 a0_0, .int .i64 a0_1, .slice A0_2 l0_2.length c0_2] 84 (0, 0)) (by (with_reducible repeat (first | refine blk_drewN ?_ _ | refine blk_drew ?_ | refine blk_alloc ?_ _)); exact BK190.out) hb); have n1_ := Aside0.mk (below_step (by repeat (first | (with_reducible first | exact HB.out | apply below_alloc | apply pw_below_drewN | apply below_drew1 | refine below_set ?_ GE190.out) | exact HB.out)) hb); have n2_ := Aside0.mk (hbox); have n3_ := Aside0.mk ((by rw [hg]; exact (below_size (by repeat (first | (with_reducible first | exact HB.out | apply below_alloc | apply pw_below_drewN | apply below_drew1 | refine below_set ?_ GE190.out) | exact HB.out))) : w.heap.size ≤ gb191)); have n4_ := Aside0.mk ((by rw [hg]; exact (below_size (by repeat (first | (with_reducible first | exact HB.out | apply below_alloc | apply pw_below_drewN | apply below_drew1 | refine below_set ?_ GE190.out) | exact HB.out))) : w.heap.size ≤ gb191)); have n5_ := Aside0.mk ((by rw [hg]; exact Nat.ne_of_lt (blk_lt (g := gb190) (o := .cells #[.int .i64 a0_0, .int .i64 a0_1, .slice A0_2 l0_2.length c0_2] 84 (0, 0)) (by (with_reducible repeat (first | refine blk_drewN ?_ _ | refine blk_drew ?_ | refine blk_alloc ?_ _)); exact BK190.out)) : gb190 ≠ gb191)); have n6_ := Aside0.mk ((by rw [hg]; exact Nat.ne_of_gt (blk_lt (g := gb190) (o := .cells #[.int .i64 a0_0, .int .i64 a0_1, .slice A0_2 l0_2.length c0_2] 84 (0, 0)) (by (with_reducible repeat (first | refine blk_drewN ?_ _ | refine blk_drew ?_ | refine blk_alloc ?_ _)); exact BK190.out)) : gb191 ≠ gb190)); clear BK190; clear HB; have BK190 := n0_; have HB := n1_; have BK191 := n2_; have GW191 := n3_; have GE191 := n4_; have NB190_191 := n5_; have NB191_190 := n6_; clear n0_ n1_ n2_ n3_ n4_ n5_ n6_; clear hb hbox hg; have hnb13 := NB190_191.out; have hnc13 := NB191_190.out; have hcz14_0 : w12.cell? ⟨gb190, 0, none⟩ = some (.int .i64 a0_0) := (blk_cell BK190.out 0).trans rfl; have hcz14_1 : w12.cell? ⟨gb190, 1, none⟩ = some (.int .i64 a0_1) := (blk_cell BK190.out 1).trans rfl; have hcz14_2 : w12.cell? ⟨gb190, 2, none⟩ = some (.slice A0_2 l0_2.length c0_2) := (blk_cell BK190.out 2).trans rfl; have hfz14_0 := blk_frozen BK190.out 0; have hfz14_1 := blk_frozen BK190.out 1; have hfz14_2 := blk_frozen BK190.out 2; have hcz15_0 : w12.cell? ⟨gb191, 0, none⟩ = some (.int .i64 a1_0) := (blk_cell BK191.out 0).trans rfl; have hcz15_1 : w12.cell? ⟨gb191, 1, none⟩ = some (.int .i64 a1_1) := (blk_cell BK191.out 1).trans rfl; have hcz15_2 : w12.cell? ⟨gb191, 2, none⟩ = some (.slice A1_2 l1_2.length c1_2) := (blk_cell BK191.out 2).trans rfl; have hfz15_0 := blk_frozen BK191.out 0; have hfz15_1 := blk_frozen BK191.out 1; have hfz15_2 := blk_frozen BK191.out 2))
   go_ret
   exact ⟨by first | rfl | (simp [errW_none, errW_some] <;> rfl) | (simp [*, errW_none, errW_some] <;> rfl), by repeat (first | (with_reducible first | exact HB.out | apply below_alloc | apply pw_below_drewN | apply below_drew1 | refine below_set ?_ GE190.out | refine below_set ?_ GE191.out) | exact HB.out)⟩
 ·rw [if_neg c3] at H
  have c3b0 : (a0_0 == a1_0) = false := beq_eq_false_iff_ne.mpr c3
  have c3b1 : (a0_0 != a1_0) = true := bne_iff_ne.mpr c3
  obtain rfl := Option.some.inj H
  go_enter Try.func92, Try.ntmps92
  go_wp2_with (first | ((with_reducible refine gate_dst (N := 2) rfl ?_); refine box_event ?hg (N := 2) ?hd (cs := #[.int .i64 a0_0, .int .i64 a0_1, .slice A0_2 l0_2.length c0_2]) (t := 84) ?hr ?_; (case hd => rfl); (case hg => rfl); (case hr => first | (go_simp; done) | (go_simp; rfl)); intro gb190 hg w16 hbox hb; have n0_ := Aside0.mk (below_step (by with_reducible repeat first | exact HB.out | apply below_alloc | apply pw_below_drewN | apply below_drew1) hb); have n1_ := Aside0.mk (hbox); have n2_ := Aside0.mk ((by rw [hg]; exact (below_size (by with_reducible repeat first | exact HB.out | apply below_alloc | apply pw_below_drewN | apply below_drew1)) : w.heap.size ≤ gb190)); have n3_ := Aside0.mk ((by rw [hg]; exact (below_size (by with_reducible repeat first | exact HB.out | apply below_alloc | apply pw_below_drewN | apply below_drew1)) : w.heap.size ≤ gb190)); clear HB; have HB := n0_; have BK190 := n1_; have GW190 := n2_; have GE190 := n3_; clear n0_ n1_ n2_ n3_; clear hb hbox hg) | ((with_reducible refine gate_dst (N := 3) rfl ?_); refine box_event ?hg (N := 3) ?hd (cs := #[.int .i64 a1_0, .int .i64 a1_1, .slice A1_2 l1_2.length c1_2]) (t := 84) ?hr ?_; (case hd => rfl); (case hg => rfl); (case hr => first | (go_simp; done) | (go_simp; rfl)); intro gb191 hg w17 hbox hb; have n0_ := Aside0.mk (blk_below (g := gb190) (o := .cells #[.int .i64 a0_0, .int .i64 a0_1, .slice A0_2 l0_2.length c0_2] 84 (0, 0)) (by (with_reducible repeat (first | refine blk_drewN ?_ _ | refine blk_drew ?_ | refine blk_alloc ?_ _)); exact BK190.out) hb); have n1_ := Aside0.mk (below_step (by repeat (first | (with_reducible first | exact HB.out | apply below_alloc | apply pw_below_drewN | apply below_drew1 | refine below_set ?_ GE190.out) | exact HB.out)) hb); have n2_ := Aside0.mk (hbox); have n3_ := Aside0.mk ((by rw [hg]; exact (below_size (by repeat (first | (with_reducible first | exact HB.out | apply below_alloc | apply pw_below_drewN | apply below_drew1 | refine below_set ?_ GE190.out) | exact HB.out))) : w.heap.size ≤ gb191)); have n4_ := Aside0.mk ((by rw [hg]; exact (below_size (by repeat (first | (with_reducible first | exact HB.out | apply below_alloc | apply pw_below_drewN | apply below_drew1 | refine below_set ?_ GE190.out) | exact HB.out))) : w.heap.size ≤ gb191)); have n5_ := Aside0.mk ((by rw [hg]; exact Nat.ne_of_lt (blk_lt (g := gb190) (o := .cells #[.int .i64 a0_0, .int .i64 a0_1, .slice A0_2 l0_2.length c0_2] 84 (0, 0)) (by (with_reducible repeat (first | refine blk_drewN ?_ _ | refine blk_drew ?_ | refine blk_alloc ?_ _)); exact BK190.out)) : gb190 ≠ gb191)); have n6_ := Aside0.mk ((by rw [hg]; exact Nat.ne_of_gt (blk_lt (g := gb190) (o := .cells #[.int .i64 a0_0, .int .i64 a0_1, .slice A0_2 l0_2.length c0_2] 84 (0, 0)) (by (with_reducible repeat (first | refine blk_drewN ?_ _ | refine blk_drew ?_ | refine blk_alloc ?_ _)); exact BK190.out)) : gb191 ≠ gb190)); clear BK190; clear HB; have BK190 := n0_; have HB := n1_; have BK191 := n2_; have GW191 := n3_; have GE191 := n4_; have NB190_191 := n5_; have NB191_190 := n6_; clear n0_ n1_ n2_ n3_ n4_ n5_ n6_; clear hb hbox hg; have hnb18 := NB190_191.out; have hnc18 := NB191_190.out; have hcz19_0 : w17.cell? ⟨gb190, 0, none⟩ = some (.int .i64 a0_0) := (blk_cell BK190.out 0).trans rfl; have hcz19_1 : w17.cell? ⟨gb190, 1, none⟩ = some (.int .i64 a0_1) := (blk_cell BK190.out 1).trans rfl; have hcz19_2 : w17.cell? ⟨gb190, 2, none⟩ = some (.slice A0_2 l0_2.length c0_2) := (blk_cell BK190.out 2).trans rfl; have hfz19_0 := blk_frozen BK190.out 0; have hfz19_1 := blk_frozen BK190.out 1; have hfz19_2 := blk_frozen BK190.out 2; have hcz20_0 : w17.cell? ⟨gb191, 0, none⟩ = some (.int .i64 a1_0) := (blk_cell BK191.out 0).trans rfl; have hcz20_1 : w17.cell? ⟨gb191, 1, none⟩ = some (.int .i64 a1_1) := (blk_cell BK191.out 1).trans rfl; have hcz20_2 : w17.cell? ⟨gb191, 2, none⟩ = some (.slice A1_2 l1_2.length c1_2) := (blk_cell BK191.out 2).trans rfl; have hfz20_0 := blk_frozen BK191.out 0; have hfz20_1 := blk_frozen BK191.out 1; have hfz20_2 := blk_frozen BK191.out 2))
  go_ret
  exact ⟨by first | rfl | (simp [errW_none, errW_some] <;> rfl) | (simp [*, errW_none, errW_some] <;> rfl), by repeat (first | (with_reducible first | exact HB.out | apply below_alloc | apply pw_below_drewN | apply below_drew1 | refine below_set ?_ GE190.out | refine below_set ?_ GE191.out) | exact HB.out)⟩
end Go.Proofs.Ytdgemabmmomebaa.PDelta
end
section
namespace Go.Proofs.Ytdgemabmmomebaa.PDelta
open Go.RowKit Go.Proofs.YtdgemabmmomebaaW.PrintWords Go.Proofs.YtdgemabmmomebaaW.PrintLast Go.Proofs.YtdgemabmmomebaaW.PrintMore
attribute [local go_sem] max2_int min2_int max_two min_two max_three min_three max_four min_four
attribute [local go_sem high] Go.Proofs.Ytdgemabmmomebaa.Ord.leq_str Go.Proofs.Ytdgemabmmomebaa.Ord.gtr_str Go.Proofs.Ytdgemabmmomebaa.Ord.geq_str
def chanceryref1_SameFlow.l0 : Nat → List (S84) → List (S84) → Int → Int → Option (Bool)
 | 0, _, _, _, _ => none
 | k + 1, x0, x1, x12, x13 => if x13 < x12 then (if 0 ≤ x13 then (if x13 < (x0.length : Int) then (if x13 < (x1.length : Int) then ((chanceryref1_SameElem.f k ((rd_T84 x0 x13).f0) ((rd_T84 x0 x13).f1) ((rd_T84 x0 x13).f2) ((rd_T84 x1 x13).f0) ((rd_T84 x1 x13).f1) ((rd_T84 x1 x13).f2)).bind fun t195 => (if t195 = true then (chanceryref1_SameFlow.l0 k x0 x1 x12 (wrap64 (x13 + 1))) else (some false))) else (none)) else (none)) else (none)) else (some true)
def chanceryref1_SameFlow.f (k : Nat) (l0 : List (S84)) (l1 : List (S84)) : Option (Bool) := if (l0.length : Int) = (l1.length : Int) then (chanceryref1_SameFlow.l0 k l0 l1 (l0.length : Int) 0) else (some false)
def chanceryref1_SameFlow.T6 : Bool × List (List Nat × List Nat) := (true, [([], []), ([], []), ([0, 1], [0, 1]), ([2], [2]), ([], []), ([], []), ([4, 5], [4, 5]), ([6], [6]), ([3, 7], [3, 7]), ([8], [8])])
def chanceryref1_SameFlow.B6 : List Nat := [0, 0, 3, 7, 0, 0, 48, 112, 255, 511]
theorem chanceryref1_SameFlow.tab6 : rtab .any (opsOf Try.f50 6) = chanceryref1_SameFlow.T6 := by kernel_rfl
theorem chanceryref1_SameFlow.bits6 : waitsOk chanceryref1_SameFlow.T6.2 chanceryref1_SameFlow.B6 = true := by kernel_rfl
set_option maxHeartbeats 8000000 in
set_option maxRecDepth 100000 in
theorem chanceryref1_SameFlow.calls (k : Nat) (A0 : Option Addr) (c0 : Nat) (l0 : List (S84)) (A1 : Option Addr) (c1 : Nat) (l1 : List (S84)) (r : Bool) (w : World) (hr0 : Kd.C k84 w A0 l0.length l0) (hc0 : l0.length ≤ c0) (hr1 : Kd.C k84 w A1 l1.length l1) (hc1 : l1.length ≤ c1) (h : chanceryref1_SameFlow.f k l0 l1 = some r) :
  Calls Try.prog 50 #[.slice A0 l0.length c0, .slice A1 l1.length c1] w fun e w' => e = .returned (.bool r) ∧ Below w.heap.size w w' := by
 have hu84 := Try.underlying84
 have HR0 := Aside0.mk hr0
 have HC0 := Aside0.mk hc0
 clear hr0 hc0
 have HR1 := Aside0.mk hr1
 have HC1 := Aside0.mk hc1
 clear hr1 hc1
 have HB := Aside0.mk (Below.refl w.heap.size w)
 have H : (if (l0.length : Int) = (l1.length : Int) then (chanceryref1_SameFlow.l0 k l0 l1 (l0.length : Int) 0) else (some false)) = some r := h
 clear h
 by_cases c3 : (l0.length : Int) = (l1.length : Int)
 ·rw [if_pos c3] at H
  have c3b0 : ((l0.length : Int) == (l1.length : Int)) = true := beq_iff_eq.mpr c3
  have c3b1 : ((l0.length : Int) != (l1.length : Int)) = false := bne_eq_false_iff_eq.mpr c3
  have c3b2 : (l0.length == l1.length) = true := by first | simpa using c3 | (simp at c3 ⊢; omega)
  clear c3
  have H' := Aside0.mk H
  clear H
  go_enter Try.func50, Try.ntmps50
  go_wp2
  go_loopg [13] k (fun kq v13 w' => ∃ (x13_1 : Int), v13 = .int .i64 x13_1 ∧ Aside0 (chanceryref1_SameFlow.l0 kq l0 l1 (l0.length : Int) x13_1 = some r) ∧ Aside0 (kq ≤ k) ∧ Aside0 (Below w.heap.size w w'))
  case atStart => exact ⟨(0), (by first | rfl | (simp; done) | (simp [*]; done)), H', ⟨Nat.le_refl _⟩, ⟨by repeat (first | (with_reducible first | exact HB.out | apply below_alloc | apply pw_below_drewN | apply below_drew1) | exact HB.out)⟩⟩
  case round =>
   clear H'
   try clear c1
   try clear p2
   try clear c3
   try clear c3b0
   try clear c3b1
   try clear c3b2
   obtain ⟨x13_1, rfl, HA, HK1, HB⟩ := hrel
   cases gk with
   | zero => exact absurd HA.out (by simp [chanceryref1_SameFlow.l0])
   | succ k1 =>
    have H := HA.out
    clear HA
    simp only [chanceryref1_SameFlow.l0] at H
    by_cases c4 : x13_1 < (l0.length : Int)
    ·rw [if_pos c4] at H
     have c4b0 : decide (x13_1 < (l0.length : Int)) = true := decide_eq_true c4
     clear c4
     by_cases c5 : 0 ≤ x13_1
     ·rw [if_pos c5] at H
      have c5b0 : decide (0 ≤ x13_1) = true := decide_eq_true c5
      clear c5
      by_cases c6 : x13_1 < (l0.length : Int)
      ·rw [if_pos c6] at H
       have c6b0 : decide (x13_1 < (l0.length : Int)) = true := decide_eq_true c6
       clear c6
       by_cases c7 : x13_1 < (l1.length : Int)
       ·rw [if_pos c7] at H
        have c7b0 : decide (x13_1 < (l1.length : Int)) = true := decide_eq_true c7
        clear c7
        replace H := Option.bind_eq_some_iff.mp H
        obtain ⟨t195, A80, H⟩ := H
        replace H : (if t195 = true then (chanceryref1_SameFlow.l0 k1 l0 l1 (l0.length : Int) (wrap64 (x13_1 + 1))) else (some false)) = some r := H
        have A8 := Aside0.mk A80
        clear A80
        by_cases c9 : t195 = true
        ·subst c9
         have H1 : (chanceryref1_SameFlow.l0 k1 l0 l1 (l0.length : Int) (wrap64 (x13_1 + 1))) = some r := by rw [if_pos rfl] at H; exact H
         clear H
         have H := H1
         clear H1
         have H' := Aside0.mk H
         clear H
         try go_wp2
         have n0_ := Aside0.mk (below_drew1 HB.out)
         clear HB
         have HB := n0_
         clear n0_
         have p193 : 0 ≤ (x13_1 : Int) := of_decide_eq_true (by assumption)
         have q193 : x13_1 < (l0.length : Int) := of_decide_eq_true (by assumption)
         obtain ⟨ad193, A193_2, c193_2, e193, hx193_0, hx193_1, hx193_2, hl193_2, hi193_2⟩ := at_T84 HR0.out x13_1 p193 q193
         have hw193_2 := hx193_2
         have hw193_1 := hx193_1
         have hw193_0 := hx193_0
         cases e193
         replace hx193_0 := (HB.out.cell (World.block_lt_of_cell? w _ hx193_0)).trans hx193_0
         replace hx193_1 := (HB.out.cell (World.block_lt_of_cell? w _ hx193_1)).trans hx193_1
         replace hx193_2 := (HB.out.cell (World.block_lt_of_cell? w _ hx193_2)).trans hx193_2
         have HR193_2 := Aside0.mk hi193_2
         have HC193_2 := Aside0.mk hl193_2
         clear hi193_2 hl193_2
         replace p193 := eq_true p193
         replace q193 := eq_true q193
         have p194 : 0 ≤ (x13_1 : Int) := of_decide_eq_true (by assumption)
         have q194 : x13_1 < (l1.length : Int) := of_decide_eq_true (by assumption)
         obtain ⟨ad194, A194_2, c194_2, e194, hx194_0, hx194_1, hx194_2, hl194_2, hi194_2⟩ := at_T84 HR1.out x13_1 p194 q194
         have hw194_2 := hx194_2
         have hw194_1 := hx194_1
         have hw194_0 := hx194_0
         cases e194
         replace hx194_0 := (HB.out.cell (World.block_lt_of_cell? w _ hx194_0)).trans hx194_0
         replace hx194_1 := (HB.out.cell (World.block_lt_of_cell? w _ hx194_1)).trans hx194_1
         replace hx194_2 := (HB.out.cell (World.block_lt_of_cell? w _ hx194_2)).trans hx194_2
         have HR194_2 := Aside0.mk hi194_2
         have HC194_2 := Aside0.mk hl194_2
         clear hi194_2 hl194_2
         replace p194 := eq_true p194
         replace q194 := eq_true q194
         refine start_ (n := 10) (S := fun w' => w'.cell? (ad193.add ((x13_1).toNat * 3)) = some (.int .i64 ((rd_T84 l0 x13_1).f0)) ∧ w'.cell? ⟨(ad193.add ((x13_1).toNat * 3)).block, (ad193.add ((x13_1).toNat * 3)).off + 1, none⟩ = some (.int .i64 ((rd_T84 l0 x13_1).f1)) ∧ w'.cell? ⟨(ad193.add ((x13_1).toNat * 3)).block, (ad193.add ((x13_1).toNat * 3)).off + 2, none⟩ = some (.slice A193_2 ((rd_T84 l0 x13_1).f2).length c193_2) ∧ w'.cell? (ad194.add ((x13_1).toNat * 3)) = some (.int .i64 ((rd_T84 l1 x13_1).f0)) ∧ w'.cell? ⟨(ad194.add ((x13_1).toNat * 3)).block, (ad194.add ((x13_1).toNat * 3)).off + 1, none⟩ = some (.int .i64 ((rd_T84 l1 x13_1).f1)) ∧ w'.cell? ⟨(ad194.add ((x13_1).toNat * 3)).block, (ad194.add ((x13_1).toNat * 3)).off + 2, none⟩ = some (.slice A194_2 ((rd_T84 l1 x13_1).f2).length c194_2)) (ds := []) #[false, false, false, false, false, false, false, false, false, false] (by kernel_rfl) rfl rfl ⟨((HB.out.cell (World.block_lt_of_cell? w _ hw193_0)).trans hw193_0), ((HB.out.cell (World.block_lt_of_cell? w _ hw193_1)).trans hw193_1), ((HB.out.cell (World.block_lt_of_cell? w _ hw193_2)).trans hw193_2), ((HB.out.cell (World.block_lt_of_cell? w _ hw194_0)).trans hw194_0), ((HB.out.cell (World.block_lt_of_cell? w _ hw194_1)).trans hw194_1), ((HB.out.cell (World.block_lt_of_cell? w _ hw194_2)).trans hw194_2)⟩ (fun hHeld => ?_); refine with_tabW chanceryref1_SameFlow.tab6 chanceryref1_SameFlow.bits6 (fun HT_ HW_ => ?_)
         generalize wr.drew = w10 at HB HR193_2 HR194_2 hx193_0 hx193_1 hx193_2 hx194_0 hx194_1 hx194_2 hHeld ⊢
         refine pure_ (i := 0) (N := some 16) (v := ?_) (a' := ?_) (bm 1 10) rfl rfl (any_of HT_.out (by kernel_rfl)) (fun _ _ _ h => h) (Or.inl ⟨by rfl, ?_⟩) ?_ ?_
         rotate_left
         ·intro w'
          go_simp
          with_reducible rfl
         rotate_left
         ·simp only [Act.put, sA, sB, sC, i64_w, i32_w]
          rfl
         refine pure_ (i := 1) (N := some 17) (v := ?_) (a' := ?_) (bm 3 10) rfl rfl (any_of HT_.out (by kernel_rfl)) (fun _ _ _ h => h) (Or.inl ⟨by rfl, ?_⟩) ?_ ?_
         rotate_left
         ·intro w'
          go_simp
          with_reducible rfl
         rotate_left
         ·simp only [Act.put, sA, sB, sC, i64_w, i32_w]
          rfl
         refine pure_ (i := 2) (N := some 18) (v := ?_) (a' := ?_) (bm 7 10) rfl rfl (any_of HT_.out (by kernel_rfl)) (fun _ _ _ h => h) (Or.inl ⟨by rfl, ?_⟩) ?_ ?_
         rotate_left
         ·intro w'
          go_simp
          with_reducible rfl
         rotate_left
         ·simp only [Act.put, sA, sB, sC, i64_w, i32_w]
          rfl
         refine pure_ (i := 4) (N := some 20) (v := ?_) (a' := ?_) (bm 23 10) rfl rfl (any_of HT_.out (by kernel_rfl)) (fun _ _ _ h => h) (Or.inl ⟨by rfl, ?_⟩) ?_ ?_
         rotate_left
         ·intro w'
          go_simp
          with_reducible rfl
         rotate_left
         ·simp only [Act.put, sA, sB, sC, i64_w, i32_w]
          rfl
         refine pure_ (i := 5) (N := some 21) (v := ?_) (a' := ?_) (bm 55 10) rfl rfl (any_of HT_.out (by kernel_rfl)) (fun _ _ _ h => h) (Or.inl ⟨by rfl, ?_⟩) ?_ ?_
         rotate_left
         ·intro w'
          go_simp
          with_reducible rfl
         rotate_left
         ·simp only [Act.put, sA, sB, sC, i64_w, i32_w]
          rfl
         refine pure_ (i := 6) (N := some 22) (v := ?_) (a' := ?_) (bm 119 10) rfl rfl (any_of HT_.out (by kernel_rfl)) (fun _ _ _ h => h) (Or.inl ⟨by rfl, ?_⟩) ?_ ?_
         rotate_left
         ·intro w'
          go_simp
          with_reducible rfl
         rotate_left
         ·simp only [Act.put, sA, sB, sC, i64_w, i32_w]
          rfl
         refine take_ (i := 3) (N := some 19) (v := ?_) (a' := ?_) (bm 127 10) rfl rfl (take_ofW HT_.out HW_.out (by kernel_rfl)) (fun _ _ _ h => h) (Or.inl ⟨by rfl, ?_⟩) hHeld ?_ ?_
         rotate_left
         ·rintro w' ⟨s0, s1, s2, s3, s4, s5⟩
          go_simp
          with_reducible rfl
         rotate_left
         ·simp only [Act.put, sA, sB, sC, i64_w, i32_w]
          rfl
         refine take_ (i := 7) (N := some 23) (v := ?_) (a' := ?_) (bm 255 10) rfl rfl (take_ofW HT_.out HW_.out (by kernel_rfl)) (fun _ _ _ h => h) (Or.inl ⟨by rfl, ?_⟩) hHeld ?_ ?_
         rotate_left
         ·rintro w' ⟨s0, s1, s2, s3, s4, s5⟩
          go_simp
          with_reducible rfl
         rotate_left
         ·simp only [Act.put, sA, sB, sC, i64_w, i32_w]
          rfl
         refine one_ (i := 8) (N := some 24) (bm 511 10) rfl rfl (one_of HT_.out (by kernel_rfl)) (by decide) (fun K hK => ?_)
         refine goes_ Try.func92 (by kernel_rfl) rfl #[.agg #[.int .i64 ((rd_T84 l0 x13_1).f0), .int .i64 ((rd_T84 l0 x13_1).f1), .slice A193_2 ((rd_T84 l0 x13_1).f2).length c193_2], .agg #[.int .i64 ((rd_T84 l1 x13_1).f0), .int .i64 ((rd_T84 l1 x13_1).f1), .slice A194_2 ((rd_T84 l1 x13_1).f2).length c194_2]] (by rfl) rfl rfl (by (try simp only [List.map_toArray, List.map_cons, List.map_nil]); first | done | rfl | (simp only [List.length_drop, List.length_take]; rfl)) ?_
         with_reducible refine (chanceryref1_SameElem.calls k1 ((rd_T84 l0 x13_1).f0) ((rd_T84 l0 x13_1).f1) _ _ ((rd_T84 l0 x13_1).f2) ((rd_T84 l1 x13_1).f0) ((rd_T84 l1 x13_1).f1) _ _ ((rd_T84 l1 x13_1).f2) true _ ?side1 ?side2 ?side3 ?side4 A8.out).mono ?_
         (case side1 => repeat (first | exact (Kd.C_below HR193_2.out HB.out) | (with_reducible refine Kd.C_alloc ?_ _) | (with_reducible refine Kd.C_drewN ?_ _) | (with_reducible refine Kd.C_drew ?_)))
         (case side2 => exact HC193_2.out)
         (case side3 => repeat (first | exact (Kd.C_below HR194_2.out HB.out) | (with_reducible refine Kd.C_alloc ?_ _) | (with_reducible refine Kd.C_drewN ?_ _) | (with_reducible refine Kd.C_drew ?_)))
         (case side4 => exact HC194_2.out)
         rintro e w11 ⟨rfl, hb⟩
         refine ⟨_, rfl, ?_⟩
         have n0_ := Aside0.mk (below_step (by with_reducible repeat first | exact HB.out | apply below_alloc | apply pw_below_drewN | apply below_drew1) hb)
         clear HB
         have HB := n0_
         clear n0_
         (try clear hb)
         (try clear hb2)
         (try clear hk)
         (try clear hi)
         refine hK.out _ _ ⟨((HB.out.cell (World.block_lt_of_cell? w _ hw193_0)).trans hw193_0), ((HB.out.cell (World.block_lt_of_cell? w _ hw193_1)).trans hw193_1), ((HB.out.cell (World.block_lt_of_cell? w _ hw193_2)).trans hw193_2), ((HB.out.cell (World.block_lt_of_cell? w _ hw194_0)).trans hw194_0), ((HB.out.cell (World.block_lt_of_cell? w _ hw194_1)).trans hw194_1), ((HB.out.cell (World.block_lt_of_cell? w _ hw194_2)).trans hw194_2)⟩ (fun hHeld => ?_)
         clear hK K
         refine norm_ (a' := ?_) ?_ ?_
         rotate_left
         ·show Act.put _ (some 24) _ = _
          simp only [Act.put, sA, sB, sC, i64_w, i32_w]
          rfl
         refine pure_ (i := 9) (N := some 25) (v := ?_) (a' := ?_) (bm 1023 10) rfl rfl (any_of HT_.out (by kernel_rfl)) (fun _ _ _ h => h) (Or.inl ⟨by rfl, ?_⟩) ?_ ?_
         rotate_left
         ·intro w'
          go_simp
          with_reducible rfl
         rotate_left
         ·simp only [Act.put, sA, sB, sC, i64_w, i32_w]
          rfl
         refine done_ (done_of HT_.out (by kernel_rfl)) ?_
         try go_wp2
         go_roundg k1
         case measure => have := HK1.out; omega
         case rel => exact ⟨(wrap64 (x13_1 + 1)), (by first | rfl | (simp; done) | (simp [*]; done)), H', ⟨by have := HK1.out; omega⟩, ⟨by repeat (first | (with_reducible first | exact HB.out | apply below_alloc | apply pw_below_drewN | apply below_drew1) | exact HB.out)⟩⟩
        ·replace c9 := Bool.eq_false_iff.mpr c9
         subst c9
         have H1 : (some false) = some r := by rw [if_neg (show ¬ (false = true) by decide)] at H; exact H
         clear H
         have H := H1
         clear H1
         obtain rfl := Option.some.inj H
         try go_wp2
         have n0_ := Aside0.mk (below_drew1 HB.out)
         clear HB
         have HB := n0_
         clear n0_
         have p193 : 0 ≤ (x13_1 : Int) := of_decide_eq_true (by assumption)
         have q193 : x13_1 < (l0.length : Int) := of_decide_eq_true (by assumption)
         obtain ⟨ad193, A193_2, c193_2, e193, hx193_0, hx193_1, hx193_2, hl193_2, hi193_2⟩ := at_T84 HR0.out x13_1 p193 q193
         have hw193_2 := hx193_2
         have hw193_1 := hx193_1
         have hw193_0 := hx193_0
         cases e193
         replace hx193_0 := (HB.out.cell (World.block_lt_of_cell? w _ hx193_0)).trans hx193_0
         replace hx193_1 := (HB.out.cell (World.block_lt_of_cell? w _ hx193_1)).trans hx193_1
         replace hx193_2 := (HB.out.cell (World.block_lt_of_cell? w _ hx193_2)).trans hx193_2
         have HR193_2 := Aside0.mk hi193_2
         have HC193_2 := Aside0.mk hl193_2
         clear hi193_2 hl193_2
         replace p193 := eq_true p193
         replace q193 := eq_true q193
         have p194 : 0 ≤ (x13_1 : Int) := of_decide_eq_true (by assumption)
         have q194 : x13_1 < (l1.length : Int) := of_decide_eq_true (by assumption)
         obtain ⟨ad194, A194_2, c194_2, e194, hx194_0, hx194_1, hx194_2, hl194_2, hi194_2⟩ := at_T84 HR1.out x13_1 p194 q194
         have hw194_2 := hx194_2
         have hw194_1 := hx194_1
         have hw194_0 := hx194_0
         cases e194
         replace hx194_0 := (HB.out.cell (World.block_lt_of_cell? w _ hx194_0)).trans hx194_0
         replace hx194_1 := (HB.out.cell (World.block_lt_of_cell? w _ hx194_1)).trans hx194_1
         replace hx194_2 := (HB.out.cell (World.block_lt_of_cell? w _ hx194_2)).trans hx194_2
         have HR194_2 := Aside0.mk hi194_2
         have HC194_2 := Aside0.mk hl194_2
         clear hi194_2 hl194_2
         replace p194 := eq_true p194
         replace q194 := eq_true q194
         refine start_ (n := 10) (S := fun w' => w'.cell? (ad193.add ((x13_1).toNat * 3)) = some (.int .i64 ((rd_T84 l0 x13_1).f0)) ∧ w'.cell? ⟨(ad193.add ((x13_1).toNat * 3)).block, (ad193.add ((x13_1).toNat * 3)).off + 1, none⟩ = some (.int .i64 ((rd_T84 l0 x13_1).f1)) ∧ w'.cell? ⟨(ad193.add ((x13_1).toNat * 3)).block, (ad193.add ((x13_1).toNat * 3)).off + 2, none⟩ = some (.slice A193_2 ((rd_T84 l0 x13_1).f2).length c193_2) ∧ w'.cell? (ad194.add ((x13_1).toNat * 3)) = some (.int .i64 ((rd_T84 l1 x13_1).f0)) ∧ w'.cell? ⟨(ad194.add ((x13_1).toNat * 3)).block, (ad194.add ((x13_1).toNat * 3)).off + 1, none⟩ = some (.int .i64 ((rd_T84 l1 x13_1).f1)) ∧ w'.cell? ⟨(ad194.add ((x13_1).toNat * 3)).block, (ad194.add ((x13_1).toNat * 3)).off + 2, none⟩ = some (.slice A194_2 ((rd_T84 l1 x13_1).f2).length c194_2)) (ds := []) #[false, false, false, false, false, false, false, false, false, false] (by kernel_rfl) rfl rfl ⟨((HB.out.cell (World.block_lt_of_cell? w _ hw193_0)).trans hw193_0), ((HB.out.cell (World.block_lt_of_cell? w _ hw193_1)).trans hw193_1), ((HB.out.cell (World.block_lt_of_cell? w _ hw193_2)).trans hw193_2), ((HB.out.cell (World.block_lt_of_cell? w _ hw194_0)).trans hw194_0), ((HB.out.cell (World.block_lt_of_cell? w _ hw194_1)).trans hw194_1), ((HB.out.cell (World.block_lt_of_cell? w _ hw194_2)).trans hw194_2)⟩ (fun hHeld => ?_); refine with_tabW chanceryref1_SameFlow.tab6 chanceryref1_SameFlow.bits6 (fun HT_ HW_ => ?_)
         generalize wr.drew = w12 at HB HR193_2 HR194_2 hx193_0 hx193_1 hx193_2 hx194_0 hx194_1 hx194_2 hHeld ⊢
         refine pure_ (i := 0) (N := some 16) (v := ?_) (a' := ?_) (bm 1 10) rfl rfl (any_of HT_.out (by kernel_rfl)) (fun _ _ _ h => h) (Or.inl ⟨by rfl, ?_⟩) ?_ ?_
         rotate_left
         ·intro w'
          go_simp
          with_reducible rfl
         rotate_left
         ·simp only [Act.put, sA, sB, sC, i64_w, i32_w]
          rfl
         refine pure_ (i := 1) (N := some 17) (v := ?_) (a' := ?_) (bm 3 10) rfl rfl (any_of HT_.out (by kernel_rfl)) (fun _ _ _ h => h) (Or.inl ⟨by rfl, ?_⟩) ?_ ?_
         rotate_left
         ·intro w'
          go_simp
          with_reducible rfl
         rotate_left
         ·simp only [Act.put, sA, sB, sC, i64_w, i32_w]
          rfl
         refine pure_ (i := 2) (N := some 18) (v := ?_) (a' := ?_) (bm 7 10) rfl rfl (any_of HT_.out (by kernel_rfl)) (fun _ _ _ h => h) (Or.inl ⟨by rfl, ?_⟩) ?_ ?_
         rotate_left
         ·intro w'
          go_simp
          with_reducible rfl
         rotate_left
         ·simp only [Act.put, sA, sB, sC, i64_w, i32_w]
          rfl
         refine pure_ (i := 4) (N := some 20) (v := ?_) (a' := ?_) (bm 23 10) rfl rfl (any_of HT_.out (by kernel_rfl)) (fun _ _ _ h => h) (Or.inl ⟨by rfl, ?_⟩) ?_ ?_
         rotate_left
         ·intro w'
          go_simp
          with_reducible rfl
         rotate_left
         ·simp only [Act.put, sA, sB, sC, i64_w, i32_w]
          rfl
         refine pure_ (i := 5) (N := some 21) (v := ?_) (a' := ?_) (bm 55 10) rfl rfl (any_of HT_.out (by kernel_rfl)) (fun _ _ _ h => h) (Or.inl ⟨by rfl, ?_⟩) ?_ ?_
         rotate_left
         ·intro w'
          go_simp
          with_reducible rfl
         rotate_left
         ·simp only [Act.put, sA, sB, sC, i64_w, i32_w]
          rfl
         refine pure_ (i := 6) (N := some 22) (v := ?_) (a' := ?_) (bm 119 10) rfl rfl (any_of HT_.out (by kernel_rfl)) (fun _ _ _ h => h) (Or.inl ⟨by rfl, ?_⟩) ?_ ?_
         rotate_left
         ·intro w'
          go_simp
          with_reducible rfl
         rotate_left
         ·simp only [Act.put, sA, sB, sC, i64_w, i32_w]
          rfl
         refine take_ (i := 3) (N := some 19) (v := ?_) (a' := ?_) (bm 127 10) rfl rfl (take_ofW HT_.out HW_.out (by kernel_rfl)) (fun _ _ _ h => h) (Or.inl ⟨by rfl, ?_⟩) hHeld ?_ ?_
         rotate_left
         ·rintro w' ⟨s0, s1, s2, s3, s4, s5⟩
          go_simp
          with_reducible rfl
         rotate_left
         ·simp only [Act.put, sA, sB, sC, i64_w, i32_w]
          rfl
         refine take_ (i := 7) (N := some 23) (v := ?_) (a' := ?_) (bm 255 10) rfl rfl (take_ofW HT_.out HW_.out (by kernel_rfl)) (fun _ _ _ h => h) (Or.inl ⟨by rfl, ?_⟩) hHeld ?_ ?_
         rotate_left
         ·rintro w' ⟨s0, s1, s2, s3, s4, s5⟩
          go_simp
          with_reducible rfl
         rotate_left
         ·simp only [Act.put, sA, sB, sC, i64_w, i32_w]
          rfl
         refine one_ (i := 8) (N := some 24) (bm 511 10) rfl rfl (one_of HT_.out (by kernel_rfl)) (by decide) (fun K hK => ?_)
         refine goes_ Try.func92 (by kernel_rfl) rfl #[.agg #[.int .i64 ((rd_T84 l0 x13_1).f0), .int .i64 ((rd_T84 l0 x13_1).f1), .slice A193_2 ((rd_T84 l0 x13_1).f2).length c193_2], .agg #[.int .i64 ((rd_T84 l1 x13_1).f0), .int .i64 ((rd_T84 l1 x13_1).f1), .slice A194_2 ((rd_T84 l1 x13_1).f2).length c194_2]] (by rfl) rfl rfl (by (try simp only [List.map_toArray, List.map_cons, List.map_nil]); first | done | rfl | (simp only [List.length_drop, List.length_take]; rfl)) ?_
         with_reducible refine (chanceryref1_SameElem.calls k1 ((rd_T84 l0 x13_1).f0) ((rd_T84 l0 x13_1).f1) _ _ ((rd_T84 l0 x13_1).f2) ((rd_T84 l1 x13_1).f0) ((rd_T84 l1 x13_1).f1) _ _ ((rd_T84 l1 x13_1).f2) false _ ?side1 ?side2 ?side3 ?side4 A8.out).mono ?_
         (case side1 => repeat (first | exact (Kd.C_below HR193_2.out HB.out) | (with_reducible refine Kd.C_alloc ?_ _) | (with_reducible refine Kd.C_drewN ?_ _) | (with_reducible refine Kd.C_drew ?_)))
         (case side2 => exact HC193_2.out)
         (case side3 => repeat (first | exact (Kd.C_below HR194_2.out HB.out) | (with_reducible refine Kd.C_alloc ?_ _) | (with_reducible refine Kd.C_drewN ?_ _) | (with_reducible refine Kd.C_drew ?_)))
         (case side4 => exact HC194_2.out)
         rintro e w13 ⟨rfl, hb⟩
         refine ⟨_, rfl, ?_⟩
         have n0_ := Aside0.mk (below_step (by with_reducible repeat first | exact HB.out | apply below_alloc | apply pw_below_drewN | apply below_drew1) hb)
         clear HB
         have HB := n0_
         clear n0_
         (try clear hb)
         (try clear hb2)
         (try clear hk)
         (try clear hi)
         refine hK.out _ _ ⟨((HB.out.cell (World.block_lt_of_cell? w _ hw193_0)).trans hw193_0), ((HB.out.cell (World.block_lt_of_cell? w _ hw193_1)).trans hw193_1), ((HB.out.cell (World.block_lt_of_cell? w _ hw193_2)).trans hw193_2), ((HB.out.cell (World.block_lt_of_cell? w _ hw194_0)).trans hw194_0), ((HB.out.cell (World.block_lt_of_cell? w _ hw194_1)).trans hw194_1), ((HB.out.cell (World.block_lt_of_cell? w _ hw194_2)).trans hw194_2)⟩ (fun hHeld => ?_)
         clear hK K
         refine norm_ (a' := ?_) ?_ ?_
         rotate_left
         ·show Act.put _ (some 24) _ = _
          simp only [Act.put, sA, sB, sC, i64_w, i32_w]
          rfl
         refine pure_ (i := 9) (N := some 25) (v := ?_) (a' := ?_) (bm 1023 10) rfl rfl (any_of HT_.out (by kernel_rfl)) (fun _ _ _ h => h) (Or.inl ⟨by rfl, ?_⟩) ?_ ?_
         rotate_left
         ·intro w'
          go_simp
          with_reducible rfl
         rotate_left
         ·simp only [Act.put, sA, sB, sC, i64_w, i32_w]
          rfl
         refine done_ (done_of HT_.out (by kernel_rfl)) ?_
         try go_wp2
         go_ret
         exact ⟨by first | rfl | (simp [errW_none, errW_some] <;> rfl) | (simp [*, errW_none, errW_some] <;> rfl), by repeat (first | (with_reducible first | exact HB.out | apply below_alloc | apply pw_below_drewN | apply below_drew1) | exact HB.out)⟩
       ·rw [if_neg c7] at H
        exact absurd H (by simp)
      ·rw [if_neg c6] at H
       exact absurd H (by simp)
     ·rw [if_neg c5] at H
      exact absurd H (by simp)
    ·rw [if_neg c4] at H
     have c4b0 : decide (x13_1 < (l0.length : Int)) = false := decide_eq_false c4
     clear c4
     obtain rfl := Option.some.inj H
     go_wp2
     go_ret
     exact ⟨by first | rfl | (simp [errW_none, errW_some] <;> rfl) | (simp [*, errW_none, errW_some] <;> rfl), by repeat (first | (with_reducible first | exact HB.out | apply below_alloc | apply pw_below_drewN | apply below_drew1) | exact HB.out)⟩
 ·rw [if_neg c3] at H
  have c3b0 : ((l0.length : Int) == (l1.length : Int)) = false := beq_eq_false_iff_ne.mpr c3
  have c3b1 : ((l0.length : Int) != (l1.length : Int)) = true := bne_iff_ne.mpr c3
  have c3b2 : (l0.length == l1.length) = false := by first | simpa using c3 | (simp at c3 ⊢; omega)
  obtain rfl := Option.some.inj H
  go_enter Try.func50, Try.ntmps50
  go_wp2
  go_ret
  exact ⟨by first | rfl | (simp [errW_none, errW_some] <;> rfl) | (simp [*, errW_none, errW_some] <;> rfl), by repeat (first | (with_reducible first | exact HB.out | apply below_alloc | apply pw_below_drewN | apply below_drew1) | exact HB.out)⟩
def chancerykeep1_letters.l0 : Nat → ByteArray → List (S84) → Int → Int → Option ((List (S84)))
 | 0, _, _, _, _ => none
 | k + 1, x0, x3, x6, x7 => if x7 < x6 then (if 0 ≤ x7 then (if x7 < (x0.size : Int) then (if x3.length < 3518437208883 then (chancerykeep1_letters.l0 k x0 (x3 ++ [(⟨wrap64 (bt x0 x7), 0, ([] : List (S38))⟩ : S84)]) x6 (wrap64 (x7 + 1))) else (none)) else (none)) else (none)) else (some x3)
def chancerykeep1_letters.f (k : Nat) (a0 : ByteArray) : Option ((List (S84))) := chancerykeep1_letters.l0 k a0 ([] : List (S84)) (a0.size : Int) 0
set_option maxHeartbeats 8000000 in
set_option maxRecDepth 100000 in
theorem chancerykeep1_letters.calls (k : Nat) (a0 : ByteArray) (r : List (S84)) (w : World) (h : chancerykeep1_letters.f k a0 = some r) :
  Calls Try.prog 81 #[.string a0] w fun e w' => ∃ v0_ : Value, e = .returned (v0_) ∧ Kd.S k84 84 w' w.heap.size (fun _ => True) v0_ r ∧ Below w.heap.size w w' := by
 have hu84 := Try.underlying84
 have HB := Aside0.mk (Below.refl w.heap.size w)
 have H : (chancerykeep1_letters.l0 k a0 ([] : List (S84)) (a0.size : Int) 0) = some r := h
 clear h
 have H' := Aside0.mk H
 clear H
 go_enter Try.func81, Try.ntmps81
 go_wp2
 go_loopg [3, 7] k (fun kq v3 v7 w' => ∃ (x3_1 : List (S84)) (x7_1 : Int), v7 = .int .i64 x7_1 ∧ Aside0 (chancerykeep1_letters.l0 kq a0 x3_1 (a0.size : Int) x7_1 = some r) ∧ Aside0 (kq ≤ k) ∧ Aside0 (Kd.S k84 84 w' w.heap.size (fun _ => True) v3 x3_1) ∧ Aside0 (Below w.heap.size w w'))
 case atStart => exact ⟨(([] : List (S84))), (0), (by first | rfl | (simp; done) | (simp [*]; done)), H', ⟨Nat.le_refl _⟩, ⟨by first | exact Kd.S_nil _ _ _ _ _ | exact Kd.N_nil _ _ _ _ _ | exact Kd.V_nil _ _ _ _ _ | exact Kd.Q_nil _ _ _ _ _ | exact Kd.R_nil _ _ _ _ _⟩, ⟨by repeat (first | (with_reducible first | exact HB.out | apply below_alloc | apply pw_below_drewN | apply below_drew1) | exact HB.out)⟩⟩
 case round =>
  clear H'
  try clear p1
  obtain ⟨x3_1, x7_1, rfl, HA, HK1, HO_3, HB⟩ := hrel
  cases gk with
  | zero => exact absurd HA.out (by simp [chancerykeep1_letters.l0])
  | succ k1 =>
   have H := HA.out
   clear HA
   simp only [chancerykeep1_letters.l0] at H
   by_cases c2 : x7_1 < (a0.size : Int)
   ·rw [if_pos c2] at H
    have c2b0 : decide (x7_1 < (a0.size : Int)) = true := decide_eq_true c2
    clear c2
    by_cases c3 : 0 ≤ x7_1
    ·rw [if_pos c3] at H
     have c3b0 : decide (0 ≤ x7_1) = true := decide_eq_true c3
     clear c3
     by_cases c4 : x7_1 < (a0.size : Int)
     ·rw [if_pos c4] at H
      have c4b0 : decide (x7_1 < (a0.size : Int)) = true := decide_eq_true c4
      clear c4
      by_cases c6 : x3_1.length < 3518437208883
      ·rw [if_pos c6] at H
       have LMc6 := Aside0.mk c6
       clear c6
       obtain ⟨y196, hy196⟩ : ∃ y_ : List (S84), y_ = (x3_1 ++ [(⟨wrap64 (bt a0 x7_1), 0, ([] : List (S38))⟩ : S84)]) := ⟨_, rfl⟩
       replace H : (chancerykeep1_letters.l0 k1 a0 y196 (a0.size : Int) (wrap64 (x7_1 + 1))) = some r := by first | (rw [hy196]; with_reducible exact H) | (have H2_ := (Option.bind_some _ _).symm.trans H; rw [hy196]; with_reducible exact H2_) | (have H2_ := (Option.bind_some _ _).symm.trans H; with_reducible exact H2_) | with_reducible exact H | (rw [hy196]; exact H) | exact H
       have Ny196 := Aside0.mk hy196
       clear hy196
       have H' := Aside0.mk H
       clear H
       have p5 : 0 ≤ (x7_1 : Int) := of_decide_eq_true (by assumption)
       have q5 : x7_1 < (a0.size : Int) := of_decide_eq_true (by assumption)
       have hx5 := bt_at a0 x7_1
       replace p5 := eq_true p5
       replace q5 := eq_true q5
       go_wp2_with (first | ((with_reducible refine gate_builtin (b := .append) (xs := #[.tmp 10, .tmp 16]) rfl ?_); at_builtin; refine Kd.S_append k84 (w0 := w) w.heap.size rfl (.tmp 10) (.tmp 16) 63 84 (.agg #[(.int .i64 0), (.int .i64 0), (.slice none 0 0)]) 40 rfl Try.underlying63 info84 rfl (by decide) (by omega) u3 x3_1 (⟨wrap64 (bt a0 x7_1), 0, ([] : List (S38))⟩ : S84) [.int .i64 (wrap64 (bt a0 x7_1)), .int .i64 0, .slice none 0 0] (fun _ => True) (fun _ => False) rfl rfl ?aP (fun k_ hk_ => hk_.elim) ?aF ?aO ?aB ?aS ?aL ?_; (case aP => exact k84_mkM _ _ _ (⟨wrap64 (bt a0 x7_1), 0, ([] : List (S38))⟩ : S84) (Kd.R_nil _ _ _ _ _)); (case aB => exact (by with_reducible repeat first | exact HB.out | apply below_alloc | apply pw_below_drewN | apply below_drew1)); (case aF => exact (fun _ _ => trivial)); (case aO => exact (by (with_reducible repeat (first | apply Kd.S_alloc | apply Kd.S_drewN | apply Kd.S_drew)); exact Kd.S_mono HO_3.out (fun k_ hk => ⟨trivial, fun e_ => e_⟩))); (case aS => exact (below_size (by with_reducible repeat first | exact HB.out | apply below_alloc | apply pw_below_drewN | apply below_drew1))); (case aL => have := LMc6.out; omega); intro v197 w7 ho hb hg hat; rw [← Ny196.out] at ho; have n0_ := Aside0.mk (hb); have n1_ := Aside0.mk (ho); clear HB; clear HO_3; have HB := n0_; have HO198 := n1_; clear n0_ n1_; clear ho hb hg hat))
       go_roundg k1
       case measure => have := HK1.out; omega
       case rel => exact ⟨(y196), (wrap64 (x7_1 + 1)), (by first | rfl | (simp; done) | (simp [*]; done)), H', ⟨by have := HK1.out; omega⟩, ⟨by (with_reducible repeat (first | apply Kd.S_alloc | apply Kd.S_drewN | apply Kd.S_drew)); exact HO198.out⟩, ⟨by repeat (first | (with_reducible first | exact HB.out | apply below_alloc | apply pw_below_drewN | apply below_drew1) | exact HB.out)⟩⟩
      ·rw [if_neg c6] at H
       exact absurd H (by simp)
     ·rw [if_neg c4] at H
      exact absurd H (by simp)
    ·rw [if_neg c3] at H
     exact absurd H (by simp)
   ·rw [if_neg c2] at H
    have c2b0 : decide (x7_1 < (a0.size : Int)) = false := decide_eq_false c2
    clear c2
    obtain rfl := Option.some.inj H
    go_wp2
    go_ret
    exact ⟨_, by first | rfl | (simp [errW_none, errW_some] <;> rfl) | (simp [*, errW_none, errW_some] <;> rfl), by (with_reducible repeat (first | apply Kd.S_alloc | apply Kd.S_drewN | apply Kd.S_drew)); exact HO_3.out, by repeat (first | (with_reducible first | exact HB.out | apply below_alloc | apply pw_below_drewN | apply below_drew1) | exact HB.out)⟩
end Go.Proofs.Ytdgemabmmomebaa.PDelta
end
section
namespace Go.Proofs.Ytdgemabmmomebaa.PDelta
open Go.RowKit Go.Proofs.YtdgemabmmomebaaW.PrintWords Go.Proofs.YtdgemabmmomebaaW.PrintLast Go.Proofs.YtdgemabmmomebaaW.PrintMore
def Small (l : List S38) : Prop := l.length ≤ 1099511627776 ∧ ∀ x ∈ l, x.f0.size ≤ 1099511627776 ∧ x.f1.size ≤ 1099511627776
def ElOK (ch : Bool) (x : S38) : Prop := NameOK x.f0 ∧ (ValOK x.f1 ∨ (ch = true ∧ x.f1.size = 0))
def Srt (l : List S38) : Prop := l.Pairwise (fun x y => ltS x y = true)
def VA (ch : Bool) (l : List S38) : Prop := (∀ x ∈ l, ElOK ch x) ∧ Srt l
def EL (ch : Bool) (l : List S38) (j : Int) : Prop := ElOK ch (rd_T38 l j) ∧ (0 < j → ltS (rd_T38 l (j - 1)) (rd_T38 l j) = true)
theorem rd_mem {l : List S38} {i : Int} (h0 : 0 ≤ i) (h : i < l.length) : rd_T38 l i ∈ l := by
 have : i.toNat < l.length := by omega
 simp only [rd_T38, List.getD_eq_getElem?_getD, List.getElem?_eq_getElem this, Option.getD_some]
 exact List.getElem_mem this
theorem rd_cons {x : S38} {l : List S38} {i : Int} (h0 : 0 ≤ i) : rd_T38 (x :: l) (i + 1) = rd_T38 l i := by
 have : (i + 1).toNat = i.toNat + 1 := by omega
 simp [rd_T38, this]
theorem mem_rd {l : List S38} {x : S38} (h : x ∈ l) : ∃ i : Int, 0 ≤ i ∧ i < l.length ∧ rd_T38 l i = x := by
 obtain ⟨j, hj, e⟩ := List.getElem_of_mem h
 exact ⟨(j : Int), by omega, by omega, by simp [rd_T38, List.getD_eq_getElem?_getD, List.getElem?_eq_getElem hj, e]⟩
theorem va_of_el (ch : Bool) (l : List S38) : (∀ j : Int, 0 ≤ j → j < l.length → EL ch l j) → VA ch l := by
 intro h
 refine ⟨fun x hx => ?_, ?_⟩
 ·obtain ⟨i, h0, h1, rfl⟩ := mem_rd hx
  exact (h i h0 h1).1
 ·have h' : ∀ j : Int, 0 < j → j < l.length → ltS (rd_T38 l (j - 1)) (rd_T38 l j) = true := fun j h0 h1 => (h j (by omega) h1).2 h0
  clear h
  induction l with
  | nil => exact List.Pairwise.nil
  | cons x l ih =>
   have hs : Srt l := ih (fun j h0 h1 => by
    have := h' (j + 1) (by omega) (by simp; omega)
    rw [rd_cons (by omega), show j + 1 - 1 = (j - 1) + 1 by omega, rd_cons (by omega)] at this
    exact this)
   refine List.Pairwise.cons (fun y hy => ?_) hs
   cases l with
   | nil => cases hy
   | cons z t =>
    have hxz : ltS x z = true := by
     have := h' 1 (by omega) (by simp; omega)
     simpa [rd_T38] using this
    rcases List.mem_cons.1 hy with rfl | hy
    ·exact hxz
    ·exact Ord.less_trans hxz ((List.pairwise_cons.1 hs).1 y hy)
theorem el_of_va (ch : Bool) (l : List S38) (h : VA ch l) : ∀ j : Int, 0 ≤ j → j < l.length → EL ch l j := by
 intro j h0 h1
 refine ⟨h.1 _ (rd_mem h0 h1), fun hj => ?_⟩
 have := List.pairwise_iff_getElem.1 h.2 (j - 1).toNat j.toNat (by omega) (by omega) (by omega)
 simpa [rd_T38, List.getD_eq_getElem?_getD, List.getElem?_eq_getElem (show j.toNat - 1 < l.length by omega), List.getElem?_eq_getElem (show j.toNat < l.length by omega)] using this
theorem rerr_l0 (l : List S38) (ch : Bool) (hs : Small l) (d : Nat) : ∀ i : Int, 0 ≤ i → i ≤ l.length → (l.length : Int) - i = d →
  ∃ r : Int, Ev (fun k => chanceryref1_AttrsError.l0 k l ch (l.length : Int) i) r ∧ (r = 0 ↔ ∀ j : Int, i ≤ j → j < l.length → EL ch l j) := by
 induction d with
 | zero =>
  intro i h0 h1 hd
  refine ⟨0, Ev.step (f := fun _ => some 0) (fun k => ?_) (Ev.now 0), ⟨fun _ j h2 h3 => by omega, fun _ => rfl⟩⟩
  simp only [chanceryref1_AttrsError.l0]
  rw [if_neg (by omega)]
 | succ d ih =>
  intro i h0 h1 hd
  have hlt : i < (l.length : Int) := by omega
  have hsz := hs.2 _ (rd_mem h0 hlt)
  have hs1 := hs.1
  obtain ⟨b, hb, hbn⟩ := rname_ev _ hsz.1
  obtain ⟨c, hc, hcv⟩ := rval_ev _ hsz.2
  cases b with
  | false =>
   refine ⟨9, Ev.step (fun k => by simp only [chanceryref1_AttrsError.l0]; rw [if_pos hlt, if_pos h0, if_pos hlt]) (Ev.bind hb (Ev.congr (fun k => by rw [if_neg (by decide)]) (Ev.now 9))), ⟨fun h => by omega, fun h => ?_⟩⟩
   exact absurd (hbn.2 (h i (Int.le_refl _) hlt).1.1) (by decide)
  | true =>
   have hno := hbn.1 rfl
   have key : ∀ bad : Bool, (bad = false ↔ (ValOK (rd_T38 l i).f1 ∨ (ch = true ∧ (rd_T38 l i).f1.size = 0))) →
     ∃ r : Int, Ev (fun k => chanceryref1_AttrsError.j1 k l ch i (l.length : Int) i bad) r ∧ (r = 0 ↔ ∀ j : Int, i ≤ j → j < l.length → EL ch l j) := by
    intro bad hbad
    cases bad with
    | true =>
     refine ⟨23, Ev.step (fun k => by simp only [chanceryref1_AttrsError.j1]; rw [if_pos (by decide)]) (Ev.now 23), ⟨fun h => by omega, fun h => ?_⟩⟩
     exact absurd (hbad.2 (h i (Int.le_refl _) hlt).1.2) (by decide)
    | false =>
     have hel : ElOK ch (rd_T38 l i) := ⟨hno, hbad.1 rfl⟩
     obtain ⟨r, hr, hri⟩ := ih (i + 1) (by omega) (by omega) (by omega)
     by_cases hi : i > 0
     ·cases hlt' : ltS (rd_T38 l (i - 1)) (rd_T38 l i) with
      | true =>
       refine ⟨r, Ev.step (fun k => by
        simp only [chanceryref1_AttrsError.j1]
        rw [if_neg (by decide), if_pos hi, wrap_dn h0 (by omega), if_pos (by omega), if_pos (by omega), if_pos h0, if_pos hlt, if_pos hlt', wrap_up h0 (by omega)]) hr, hri.trans ⟨fun h j h2 h3 => ?_, fun h j h2 h3 => h j (by omega) h3⟩⟩
       rcases Int.lt_or_eq_of_le h2 with h4 | h4
       ·exact h j (by omega) h3
       ·subst h4; exact ⟨hel, fun _ => hlt'⟩
      | false =>
       refine ⟨5, Ev.step (fun k => by
        simp only [chanceryref1_AttrsError.j1]
        rw [if_neg (by decide), if_pos hi, wrap_dn h0 (by omega), if_pos (by omega), if_pos (by omega), if_pos h0, if_pos hlt, if_neg (fun h => absurd (h.symm.trans hlt') (by decide))]) (Ev.now 5), ⟨fun h => by omega, fun h => ?_⟩⟩
       have := (h i (Int.le_refl _) hlt).2 hi
       rw [hlt'] at this; cases this
     ·refine ⟨r, Ev.step (fun k => by
       simp only [chanceryref1_AttrsError.j1]
       rw [if_neg (by decide), if_neg hi, wrap_up h0 (by omega)]) hr, hri.trans ⟨fun h j h2 h3 => ?_, fun h j h2 h3 => h j (by omega) h3⟩⟩
      rcases Int.lt_or_eq_of_le h2 with h4 | h4
      ·exact h j (by omega) h3
      ·subst h4; exact ⟨hel, fun h => absurd h hi⟩
   cases c with
   | true =>
    obtain ⟨r, hr, hri⟩ := key false ⟨fun _ => .inl (hcv.1 rfl), fun _ => rfl⟩
    exact ⟨r, Ev.step (fun k => by simp only [chanceryref1_AttrsError.l0]; rw [if_pos hlt, if_pos h0, if_pos hlt]) (Ev.bind hb (Ev.congr (fun k => by rw [if_pos (by decide)]) (Ev.bind hc (Ev.congr (fun k => by rw [if_pos (by decide)]) hr)))), hri⟩
   | false =>
    have hnv : ¬ ValOK (rd_T38 l i).f1 := fun h => absurd (hcv.2 h) (by decide)
    by_cases he : (rd_T38 l i).f1.toList = []
    ·obtain ⟨r, hr, hri⟩ := key (!ch) (by
      cases ch with
      | true => exact ⟨fun _ => .inr ⟨rfl, list_nil.1 he⟩, fun _ => rfl⟩
      | false => exact ⟨(fun h => by cases h), (fun h => by rcases h with h | ⟨h, _⟩; exact absurd h hnv; cases h)⟩)
     exact ⟨r, Ev.step (fun k => by simp only [chanceryref1_AttrsError.l0]; rw [if_pos hlt, if_pos h0, if_pos hlt]) (Ev.bind hb (Ev.congr (fun k => by rw [if_pos (by decide)]) (Ev.bind hc (Ev.congr (fun k => by rw [if_neg (by decide), if_pos he]) hr)))), hri⟩
    ·obtain ⟨r, hr, hri⟩ := key true ⟨(fun h => by cases h), (fun h => by rcases h with h | ⟨_, h⟩; exact absurd h hnv; exact absurd (list_nil.2 h) he)⟩
     exact ⟨r, Ev.step (fun k => by simp only [chanceryref1_AttrsError.l0]; rw [if_pos hlt, if_pos h0, if_pos hlt]) (Ev.bind hb (Ev.congr (fun k => by rw [if_pos (by decide)]) (Ev.bind hc (Ev.congr (fun k => by rw [if_neg (by decide), if_neg he]) hr)))), hri⟩
theorem rerr_ev (l : List S38) (ch : Bool) (hs : Small l) : ∃ r : Int, Ev (fun k => chanceryref1_AttrsError.f k l ch) r ∧ (r = 0 ↔ VA ch l) := by
 obtain ⟨r, hr, hri⟩ := rerr_l0 l ch hs l.length 0 (by omega) (by omega) (by omega)
 exact ⟨r, hr, hri.trans ⟨va_of_el ch l, el_of_va ch l⟩⟩
theorem chk_l0 (l : List S38) (ch : Bool) (hs : Small l) (d : Nat) : ∀ i : Int, 0 ≤ i → i ≤ l.length → (l.length : Int) - i = d →
  ∃ r : Int, Ev (fun k => attr_check.l0 k l ch l (l.length : Int) i) r ∧ (r = 0 ↔ ∀ j : Int, i ≤ j → j < l.length → EL ch l j) := by
 induction d with
 | zero =>
  intro i h0 h1 hd
  refine ⟨0, Ev.step (f := fun _ => some 0) (fun k => ?_) (Ev.now 0), ⟨fun _ j h2 h3 => by omega, fun _ => rfl⟩⟩
  simp only [attr_check.l0]
  rw [if_neg (by omega)]
 | succ d ih =>
  intro i h0 h1 hd
  have hlt : i < (l.length : Int) := by omega
  have hsz := hs.2 _ (rd_mem h0 hlt)
  have hs1 := hs.1
  obtain ⟨b, hb, hbn⟩ := name_ev _ hsz.1
  obtain ⟨c, hc, hcv⟩ := val_ev _ hsz.2
  cases b with
  | false =>
   refine ⟨9, Ev.step (fun k => by simp only [attr_check.l0]; rw [if_pos hlt, if_pos h0, if_pos hlt]) (Ev.bind hb (Ev.congr (fun k => by rw [if_neg (by decide)]) (Ev.now 9))), ⟨fun h => by omega, fun h => ?_⟩⟩
   exact absurd (hbn.2 (h i (Int.le_refl _) hlt).1.1) (by decide)
  | true =>
   have hno := hbn.1 rfl
   have key : ∀ bad : Bool, (bad = false ↔ (ValOK (rd_T38 l i).f1 ∨ (ch = true ∧ (rd_T38 l i).f1.size = 0))) →
     ∃ r : Int, Ev (fun k => attr_check.j1 k l ch i l (l.length : Int) i bad (rd_T38 l i).f0 (rd_T38 l i).f1) r ∧ (r = 0 ↔ ∀ j : Int, i ≤ j → j < l.length → EL ch l j) := by
    intro bad hbad
    cases bad with
    | true =>
     refine ⟨23, Ev.step (fun k => by simp only [attr_check.j1]; rw [if_pos (by decide)]) (Ev.now 23), ⟨fun h => by omega, fun h => ?_⟩⟩
     exact absurd (hbad.2 (h i (Int.le_refl _) hlt).1.2) (by decide)
    | false =>
     have hel : ElOK ch (rd_T38 l i) := ⟨hno, hbad.1 rfl⟩
     obtain ⟨r, hr, hri⟩ := ih (i + 1) (by omega) (by omega) (by omega)
     by_cases hi : i > 0
     ·cases hlt' : ltS (rd_T38 l (i - 1)) (rd_T38 l i) with
      | true =>
       refine ⟨r, Ev.step (fun k => by
        simp only [attr_check.j1]
        rw [if_neg (by decide), if_pos hi, wrap_dn h0 (by omega), if_pos (by omega), if_pos (by omega), if_pos hlt', wrap_up h0 (by omega)]) hr, hri.trans ⟨fun h j h2 h3 => ?_, fun h j h2 h3 => h j (by omega) h3⟩⟩
       rcases Int.lt_or_eq_of_le h2 with h4 | h4
       ·exact h j (by omega) h3
       ·subst h4; exact ⟨hel, fun _ => hlt'⟩
      | false =>
       refine ⟨5, Ev.step (fun k => by
        simp only [attr_check.j1]
        rw [if_neg (by decide), if_pos hi, wrap_dn h0 (by omega), if_pos (by omega), if_pos (by omega), if_neg (fun h => absurd (h.symm.trans hlt') (by decide))]) (Ev.now 5), ⟨fun h => by omega, fun h => ?_⟩⟩
       have := (h i (Int.le_refl _) hlt).2 hi
       rw [hlt'] at this; cases this
     ·refine ⟨r, Ev.step (fun k => by
       simp only [attr_check.j1]
       rw [if_neg (by decide), if_neg hi, wrap_up h0 (by omega)]) hr, hri.trans ⟨fun h j h2 h3 => ?_, fun h j h2 h3 => h j (by omega) h3⟩⟩
      rcases Int.lt_or_eq_of_le h2 with h4 | h4
      ·exact h j (by omega) h3
      ·subst h4; exact ⟨hel, fun h => absurd h hi⟩
   cases c with
   | true =>
    obtain ⟨r, hr, hri⟩ := key false ⟨fun _ => .inl (hcv.1 rfl), fun _ => rfl⟩
    exact ⟨r, Ev.step (fun k => by simp only [attr_check.l0]; rw [if_pos hlt, if_pos h0, if_pos hlt]) (Ev.bind hb (Ev.congr (fun k => by rw [if_pos (by decide)]) (Ev.bind hc (Ev.congr (fun k => by rw [if_pos (by decide)]) hr)))), hri⟩
   | false =>
    have hnv : ¬ ValOK (rd_T38 l i).f1 := fun h => absurd (hcv.2 h) (by decide)
    cases ch with
    | false =>
     obtain ⟨r, hr, hri⟩ := key true ⟨(fun h => by cases h), (fun h => by rcases h with h | ⟨h, _⟩; exact absurd h hnv; cases h)⟩
     exact ⟨r, Ev.step (fun k => by simp only [attr_check.l0]; rw [if_pos hlt, if_pos h0, if_pos hlt]) (Ev.bind hb (Ev.congr (fun k => by rw [if_pos (by decide)]) (Ev.bind hc (Ev.congr (fun k => by rw [if_neg (by decide), if_neg (by decide)]; rfl) hr)))), hri⟩
    | true =>
     obtain ⟨r, hr, hri⟩ := key (!((rd_T38 l i).f1.toList == ([] : List UInt8))) (by
      by_cases he : (rd_T38 l i).f1.toList = []
      ·rw [he]; exact ⟨fun _ => .inr ⟨rfl, list_nil.1 he⟩, fun _ => rfl⟩
      ·exact ⟨(fun h => by simp at h; exact absurd h he), (fun h => by rcases h with h | ⟨_, h⟩; exact absurd h hnv; exact absurd (list_nil.2 h) he)⟩)
     exact ⟨r, Ev.step (fun k => by simp only [attr_check.l0]; rw [if_pos hlt, if_pos h0, if_pos hlt]) (Ev.bind hb (Ev.congr (fun k => by rw [if_pos (by decide)]) (Ev.bind hc (Ev.congr (fun k => by rw [if_neg (by decide), if_pos trivial]) hr)))), hri⟩
theorem chkc_ev (l : List S38) (hs : Small l) : ∃ r : Int, Ev (fun k => attr_CheckChange.f k l) r ∧ (r = 0 ↔ VA true l) := by
 obtain ⟨r, hr, hri⟩ := chk_l0 l true hs l.length 0 (by omega) (by omega) (by omega)
 exact ⟨r, Ev.bind (g := fun k => attr_check.f k l true) hr (Ev.now r), hri.trans ⟨va_of_el true l, el_of_va true l⟩⟩
theorem chk_ev (l : List S38) (hs : Small l) : ∃ r : Int, Ev (fun k => attr_Check.f k l) r ∧ (r = 0 ↔ VA false l) := by
 obtain ⟨r, hr, hri⟩ := chk_l0 l false hs l.length 0 (by omega) (by omega) (by omega)
 exact ⟨r, Ev.bind (g := fun k => attr_check.f k l false) hr (Ev.now r), hri.trans ⟨va_of_el false l, el_of_va false l⟩⟩
def CharOK (c : Int) : Prop := c = 9 ∨ c = 10 ∨ (32 ≤ c ∧ c ≤ 126) ∨ (160 ≤ c ∧ c ≤ 55295) ∨ (57344 ≤ c ∧ c ≤ 1114111)
instance (c : Int) : Decidable (CharOK c) := by unfold CharOK; infer_instance
theorem char_is (c : Int) : flow_Char.f c = some (decide (CharOK c)) := by
 have e : ∀ {p : Prop} [Decidable p] {b : Bool}, (p ↔ b = true) → decide p = b := fun {p} _ {b} h => by
  cases b with
  | true => exact decide_eq_true (h.2 rfl)
  | false => exact decide_eq_false (fun hp => absurd (h.1 hp) (by decide))
 unfold flow_Char.f
 repeat' split
 all_goals
  refine congrArg some (e ?_).symm
  simp only [iff_true, decide_eq_true_eq, Bool.false_eq_true, iff_false, CharOK]
  omega
theorem rin_is (c a b : Int) : chanceryref1_In.f c a b = some (decide (a ≤ c ∧ c ≤ b)) := by
 unfold chanceryref1_In.f
 by_cases h : c ≥ a
 ·rw [if_pos h]
  refine congrArg some ?_
  by_cases h2 : c ≤ b
  ·rw [decide_eq_true h2, decide_eq_true (by omega)]
  ·rw [decide_eq_false h2, decide_eq_false (by omega)]
 ·rw [if_neg h, decide_eq_false (by omega)]
theorem rchar_is (c : Int) : chanceryref1_Char.f c = some (decide (CharOK c)) := by
 unfold chanceryref1_Char.f
 rw [rin_is, rin_is, rin_is]
 simp only [Option.bind_some]
 by_cases h : CharOK c
 ·rw [decide_eq_true h]
  have h' := h
  unfold CharOK at h'
  repeat' split
  all_goals first | rfl | skip
  refine congrArg some (decide_eq_true ?_)
  rename_i h1 h2 h3 h4
  rw [decide_eq_true_eq] at h3 h4
  omega
 ·rw [decide_eq_false h]
  unfold CharOK at h
  rw [if_neg (by omega), if_neg (by omega), decide_eq_false (by omega), decide_eq_false (by omega), decide_eq_false (by omega)]
  rfl
def ElemOK (x : S84) : Prop := ((x.f0 = 0 ∧ 1 ≤ x.f1 ∧ x.f1 ≤ 1073741824) ∨ (x.f1 = 0 ∧ CharOK x.f0)) ∧ VA false x.f2
theorem not_char0 : ¬ CharOK 0 := by unfold CharOK; omega
theorem elem_ev (x : S84) (hs : Small x.f2) : ∃ r : Int, Ev (fun k => flow_elem.f k x.f0 x.f1 x.f2) r ∧ (r = 0 ↔ ElemOK x) := by
 obtain ⟨a, ha, hai⟩ := chk_ev x.f2 hs
 have last : Ev (fun k => (attr_Check.f k x.f2).bind fun t => some t) a := Ev.bind ha (Ev.now a)
 by_cases h0 : x.f0 = 0
 ·by_cases h1 : x.f1 = 0
  ·refine ⟨4, Ev.congr (fun k => ?_) (Ev.now 4), ⟨fun h => by omega, fun h => ?_⟩⟩
   ·unfold flow_elem.f
    rw [h0, h1]
    rfl
   ·rcases h.1 with h | h
    ·omega
    ·rw [h0] at h; exact absurd h.2 not_char0
  ·have e : ∀ k, flow_elem.f (k + 1) x.f0 x.f1 x.f2 = if x.f1 < 1 then some 2 else if x.f1 > 1073741824 then some 2 else (attr_Check.f k x.f2).bind fun t => some t := fun k => by
    unfold flow_elem.f
    rw [h0, if_neg (by simpa using h1), if_neg h1, flow_elem.j0, if_neg (by decide), if_neg h1]
   by_cases h2 : 1 ≤ x.f1 ∧ x.f1 ≤ 1073741824
   ·refine ⟨a, Ev.step (fun k => by rw [e, if_neg (by omega), if_neg (by omega)]) last, hai.trans ⟨fun h => ⟨.inl ⟨h0, h2⟩, h⟩, fun h => h.2⟩⟩
   ·refine ⟨2, Ev.step (f := fun _ => some 2) (fun k => by rw [e]; split; rfl; rw [if_pos (by omega)]) (Ev.now 2), ⟨fun h => by omega, fun h => ?_⟩⟩
    rcases h.1 with h | h
    ·exact absurd h.2 h2
    ·exact absurd h.1 h1
 ·by_cases h1 : x.f1 = 0
  ·have e : ∀ k, flow_elem.f (k + 1) x.f0 x.f1 x.f2 = if decide (CharOK x.f0) = true then (attr_Check.f k x.f2).bind fun t => some t else some 2 := fun k => by
    unfold flow_elem.f
    rw [h1, if_neg (by simpa using h0), if_pos rfl, char_is, Option.bind_some, flow_elem.j0]
    cases decide (CharOK x.f0) with
    | true => rw [if_neg (show ¬ ((!true) = true) by decide), if_pos rfl, if_pos rfl]
    | false => rw [if_pos (show (!false) = true from rfl), if_neg (by decide)]
   by_cases h2 : CharOK x.f0
   ·refine ⟨a, Ev.step (fun k => by rw [e, if_pos (decide_eq_true h2)]) last, hai.trans ⟨fun h => ⟨.inr ⟨h1, h2⟩, h⟩, fun h => h.2⟩⟩
   ·refine ⟨2, Ev.step (f := fun _ => some 2) (fun k => by rw [e, if_neg (by rw [decide_eq_true_eq]; exact h2)]) (Ev.now 2), ⟨fun h => by omega, fun h => ?_⟩⟩
    rcases h.1 with h | h
    ·exact absurd h.1 h0
    ·exact absurd h.2 h2
  ·refine ⟨4, Ev.congr (fun k => ?_) (Ev.now 4), ⟨fun h => by omega, fun h => ?_⟩⟩
   ·have e0 : (x.f0 != 0) = true := by simpa using h0
    have e1 : (x.f1 != 0) = true := by simpa using h1
    unfold flow_elem.f
    rw [e0, e1, if_pos (show (true == true) = true from rfl)]
   ·rcases h.1 with h | h
    ·exact absurd h.1 h0
    ·exact absurd h.1 h1
theorem relem_ev (x : S84) (hs : Small x.f2) : ∃ r : Int, Ev (fun k => chanceryref1_ElemError.f k x.f0 x.f1 x.f2) r ∧ (r = 0 ↔ ElemOK x) := by
 obtain ⟨a, ha, hai⟩ := rerr_ev x.f2 false hs
 have last : Ev (fun k => (chanceryref1_AttrsError.f k x.f2 false).bind fun t => some t) a := Ev.bind ha (Ev.now a)
 have bad : ∀ (r : Int), r ≠ 0 → ¬ ElemOK x → (∀ k, chanceryref1_ElemError.f (k + 1) x.f0 x.f1 x.f2 = some r) → ∃ r : Int, Ev (fun k => chanceryref1_ElemError.f k x.f0 x.f1 x.f2) r ∧ (r = 0 ↔ ElemOK x) :=
  fun r h1 h2 h3 => ⟨r, Ev.step (f := fun _ => some r) h3 (Ev.now r), ⟨fun h => absurd h h1, fun h => absurd h h2⟩⟩
 by_cases h0 : x.f0 = 0
 ·by_cases h1 : x.f1 = 0
  ·refine bad 4 (by decide) (fun h => ?_) (fun k => ?_)
   ·rcases h.1 with h | h
    ·omega
    ·rw [h0] at h; exact absurd h.2 not_char0
   ·unfold chanceryref1_ElemError.f
    rw [if_pos h0, if_pos h1, chanceryref1_ElemError.j0, if_pos rfl]
  ·have e : ∀ k, chanceryref1_ElemError.f (k + 1) x.f0 x.f1 x.f2 = if decide (1 ≤ x.f1 ∧ x.f1 ≤ 1073741824) = true then (chanceryref1_AttrsError.f k x.f2 false).bind fun t => some t else some 2 := fun k => by
    unfold chanceryref1_ElemError.f
    rw [if_pos h0, if_neg h1, chanceryref1_ElemError.j0, if_neg (by decide), if_pos h0, if_neg h1, rin_is, Option.bind_some]
   by_cases h2 : 1 ≤ x.f1 ∧ x.f1 ≤ 1073741824
   ·exact ⟨a, Ev.step (fun k => by rw [e, if_pos (decide_eq_true h2)]) last, hai.trans ⟨fun h => ⟨.inl ⟨h0, h2⟩, h⟩, fun h => h.2⟩⟩
   ·refine bad 2 (by decide) (fun h => ?_) (fun k => by rw [e, if_neg (by rw [decide_eq_true_eq]; exact h2)])
    rcases h.1 with h | h
    ·exact absurd h.2 h2
    ·exact absurd h.1 h1
 ·by_cases h1 : x.f1 = 0
  ·have e : ∀ k, chanceryref1_ElemError.f (k + 1) x.f0 x.f1 x.f2 = if decide (CharOK x.f0) = true then (chanceryref1_AttrsError.f k x.f2 false).bind fun t => some t else some 2 := fun k => by
    unfold chanceryref1_ElemError.f
    rw [if_neg h0, chanceryref1_ElemError.j0, if_neg (by simp [h1]), if_neg h0, rchar_is, Option.bind_some, if_pos h1]
   by_cases h2 : CharOK x.f0
   ·exact ⟨a, Ev.step (fun k => by rw [e, if_pos (decide_eq_true h2)]) last, hai.trans ⟨fun h => ⟨.inr ⟨h1, h2⟩, h⟩, fun h => h.2⟩⟩
   ·refine bad 2 (by decide) (fun h => ?_) (fun k => by rw [e, if_neg (by rw [decide_eq_true_eq]; exact h2)])
    rcases h.1 with h | h
    ·exact absurd h.1 h0
    ·exact absurd h.2 h2
  ·refine bad 4 (by decide) (fun h => ?_) (fun k => ?_)
   ·rcases h.1 with h | h
    ·exact absurd h.1 h0
    ·exact absurd h.1 h1
   ·unfold chanceryref1_ElemError.f
    rw [if_neg h0, chanceryref1_ElemError.j0, if_pos (by simp [h1])]
def FSmall (f : List S84) : Prop := f.length ≤ 1073741824 ∧ ∀ x ∈ f, Small x.f2 ∧ x.f2.length ≤ 1073741824
theorem rdf_mem {l : List S84} {i : Int} (h0 : 0 ≤ i) (h : i < l.length) : rd_T84 l i ∈ l := by
 have : i.toNat < l.length := by omega
 simp only [rd_T84, List.getD_eq_getElem?_getD, List.getElem?_eq_getElem this, Option.getD_some]
 exact List.getElem_mem this
theorem memf_rd {l : List S84} {x : S84} (h : x ∈ l) : ∃ i : Int, 0 ≤ i ∧ i < l.length ∧ rd_T84 l i = x := by
 obtain ⟨j, hj, e⟩ := List.getElem_of_mem h
 exact ⟨(j : Int), by omega, by omega, by simp [rd_T84, List.getD_eq_getElem?_getD, List.getElem?_eq_getElem hj, e]⟩
def POK (f : List S84) : Prop := ∀ j : Int, 0 ≤ j → j < f.length → ElemOK (rd_T84 f j)
theorem part_l0 (f : List S84) (hs : FSmall f) (d : Nat) : ∀ i : Int, 0 ≤ i → i ≤ f.length → (f.length : Int) - i = d →
  ∃ r : Int, Ev (fun k => flow_CheckPart.l0 k f (f.length : Int) i) r ∧ (r = 0 ↔ ∀ j : Int, i ≤ j → j < f.length → ElemOK (rd_T84 f j)) := by
 induction d with
 | zero =>
  intro i h0 h1 hd
  refine ⟨0, Ev.step (f := fun _ => some 0) (fun k => ?_) (Ev.now 0), ⟨fun _ j h2 h3 => by omega, fun _ => rfl⟩⟩
  simp only [flow_CheckPart.l0]
  rw [if_neg (by omega)]
 | succ d ih =>
  intro i h0 h1 hd
  have hlt : i < (f.length : Int) := by omega
  have hs1 := hs.1
  obtain ⟨e, he, hei⟩ := elem_ev (rd_T84 f i) (hs.2 _ (rdf_mem h0 hlt)).1
  obtain ⟨r, hr, hri⟩ := ih (i + 1) (by omega) (by omega) (by omega)
  by_cases hz : e = 0
  ·subst hz
   refine ⟨r, Ev.step (fun k => by simp only [flow_CheckPart.l0]; rw [if_pos hlt, if_pos h0, if_pos hlt, wrap_up h0 (by omega)]) (Ev.bind he (Ev.congr (fun k => by rw [if_pos rfl]) hr)), hri.trans ⟨fun h j h2 h3 => ?_, fun h j h2 h3 => h j (by omega) h3⟩⟩
   rcases Int.lt_or_eq_of_le h2 with h4 | h4
   ·exact h j (by omega) h3
   ·subst h4; exact hei.1 rfl
  ·refine ⟨e, Ev.step (fun k => by simp only [flow_CheckPart.l0]; rw [if_pos hlt, if_pos h0, if_pos hlt]) (Ev.bind he (Ev.congr (fun k => by rw [if_neg hz]) (Ev.now e))), ⟨fun h => absurd h hz, fun h => ?_⟩⟩
   exact hei.2 (h i (Int.le_refl _) hlt)
theorem part_ev (f : List S84) (hs : FSmall f) : ∃ r : Int, Ev (fun k => flow_CheckPart.f k f) r ∧ (r = 0 ↔ POK f) := part_l0 f hs f.length 0 (by omega) (by omega) (by omega)
theorem rpart_l0 (f : List S84) (hs : FSmall f) (d : Nat) : ∀ i : Int, 0 ≤ i → i ≤ f.length → (f.length : Int) - i = d →
  ∃ r : Int, Ev (fun k => chanceryref1_PartError.l0 k f (f.length : Int) i) r ∧ (r = 0 ↔ ∀ j : Int, i ≤ j → j < f.length → ElemOK (rd_T84 f j)) := by
 induction d with
 | zero =>
  intro i h0 h1 hd
  refine ⟨0, Ev.step (f := fun _ => some 0) (fun k => ?_) (Ev.now 0), ⟨fun _ j h2 h3 => by omega, fun _ => rfl⟩⟩
  simp only [chanceryref1_PartError.l0]
  rw [if_neg (by omega)]
 | succ d ih =>
  intro i h0 h1 hd
  have hlt : i < (f.length : Int) := by omega
  have hs1 := hs.1
  obtain ⟨e, he, hei⟩ := relem_ev (rd_T84 f i) (hs.2 _ (rdf_mem h0 hlt)).1
  obtain ⟨r, hr, hri⟩ := ih (i + 1) (by omega) (by omega) (by omega)
  by_cases hz : e = 0
  ·subst hz
   refine ⟨r, Ev.step (fun k => by simp only [chanceryref1_PartError.l0]; rw [if_pos hlt, if_pos h0, if_pos hlt, wrap_up h0 (by omega)]) (Ev.bind he (Ev.congr (fun k => by rw [if_pos rfl]) hr)), hri.trans ⟨fun h j h2 h3 => ?_, fun h j h2 h3 => h j (by omega) h3⟩⟩
   rcases Int.lt_or_eq_of_le h2 with h4 | h4
   ·exact h j (by omega) h3
   ·subst h4; exact hei.1 rfl
  ·refine ⟨e, Ev.step (fun k => by simp only [chanceryref1_PartError.l0]; rw [if_pos hlt, if_pos h0, if_pos hlt]) (Ev.bind he (Ev.congr (fun k => by rw [if_neg hz]) (Ev.now e))), ⟨fun h => absurd h hz, fun h => ?_⟩⟩
   exact hei.2 (h i (Int.le_refl _) hlt)
theorem rpart_ev (f : List S84) (hs : FSmall f) : ∃ r : Int, Ev (fun k => chanceryref1_PartError.f k f) r ∧ (r = 0 ↔ POK f) := rpart_l0 f hs f.length 0 (by omega) (by omega) (by omega)
theorem copy_l0 (f : List S84) (hs : FSmall f) (d : Nat) : ∀ (i : Nat), i + d = f.length → Ev (fun k => flow_Copy.l0 k (f.take i ++ List.replicate (f.length - i) z84) f (f.length : Int) (i : Int)) f := by
 induction d with
 | zero =>
  intro i hi
  refine Ev.step (f := fun _ => some f) (fun k => ?_) (Ev.now f)
  simp only [flow_Copy.l0]
  rw [if_neg (by omega), show i = f.length by omega]
  simp
 | succ d ih =>
  intro i hi
  have hs1 := hs.1
  have hlt : (i : Int) < (f.length : Int) := by omega
  refine Ev.step (fun k => ?_) (ih (i + 1) (by omega))
  have hlen : (f.take i ++ List.replicate (f.length - i) z84).length = f.length := by simp; omega
  have hx : rd_T84 f (i : Int) = f[i]'(by omega) := by
   simp [rd_T84, List.getD_eq_getElem?_getD, List.getElem?_eq_getElem (show i < f.length by omega)]
  have h2 := (hs.2 _ (rdf_mem (l := f) (i := (i : Int)) (by omega) hlt)).2
  simp only [flow_Copy.l0]
  rw [if_pos hlt, if_pos (by omega), if_pos hlt, if_pos (by simp; omega), if_pos (by rw [hlen]; exact hlt), wrap_up (by omega) (by omega), show ((i : Int) + 1) = ((i + 1 : Nat) : Int) from by omega]
  have hset : (f.take i ++ List.replicate (f.length - i) z84).set (i : Int).toNat (⟨(rd_T84 f (i : Int)).f0, (rd_T84 f (i : Int)).f1, ([] : List S38) ++ (rd_T84 f (i : Int)).f2⟩ : S84) = f.take (i + 1) ++ List.replicate (f.length - (i + 1)) z84 := by
   rw [List.nil_append, Int.toNat_natCast]
   have hn : f.length - i = (f.length - (i + 1)) + 1 := by omega
   rw [hn, List.replicate_succ, List.set_append_right _ _ (by simp; omega)]
   have : i - (f.take i).length = 0 := by simp; omega
   have ht : f.take (i + 1) = f.take i ++ [f[i]'(by omega)] := by
    rw [List.take_add_one, List.getElem?_eq_getElem (show i < f.length by omega)]
    rfl
   rw [this, List.set_cons_zero, hx, ht, List.append_assoc]
   rfl
  rw [hset]
theorem copy_ev (f : List S84) (hs : FSmall f) : Ev (fun k => flow_Copy.f k f) f := by
 have hs1 := hs.1
 refine Ev.congr (fun k => ?_) (copy_l0 f hs f.length 0 (by omega))
 unfold flow_Copy.f
 rw [if_pos (by omega), if_pos (by omega)]
 simp
theorem same_attrs (l : List S38) (hs : l.length ≤ 1099511627776) (d : Nat) : ∀ i : Int, 0 ≤ i → (l.length : Int) - i = d → Ev (fun k => chanceryref1_SameAttrs.l0 k l l (l.length : Int) i) true := by
 induction d with
 | zero =>
  intro i h0 hd
  refine Ev.step (f := fun _ => some true) (fun k => ?_) (Ev.now true)
  simp only [chanceryref1_SameAttrs.l0]
  rw [if_neg (by omega)]
 | succ d ih =>
  intro i h0 hd
  refine Ev.step (fun k => ?_) (ih (i + 1) (by omega) (by omega))
  simp only [chanceryref1_SameAttrs.l0]
  rw [if_pos (by omega), if_pos h0, if_pos (by omega), if_pos (by omega), if_neg (by simp), wrap_up h0 (by omega)]
theorem same_attrs_ev (l : List S38) (hs : l.length ≤ 1099511627776) : Ev (fun k => chanceryref1_SameAttrs.f k l l) true :=
 Ev.congr (fun k => by unfold chanceryref1_SameAttrs.f; rw [if_pos rfl]) (same_attrs l hs l.length 0 (by omega) (by omega))
theorem same_elem_ev (x : S84) (hs : Small x.f2) : Ev (fun k => chanceryref1_SameElem.f k x.f0 x.f1 x.f2 x.f0 x.f1 x.f2) true :=
 Ev.congr (fun k => by unfold chanceryref1_SameElem.f; rw [if_pos rfl, if_pos rfl]) (Ev.bind (same_attrs_ev x.f2 hs.1) (Ev.now true))
theorem same_flow (f : List S84) (hs : FSmall f) (d : Nat) : ∀ i : Int, 0 ≤ i → (f.length : Int) - i = d → Ev (fun k => chanceryref1_SameFlow.l0 k f f (f.length : Int) i) true := by
 have hs1 := hs.1
 induction d with
 | zero =>
  intro i h0 hd
  refine Ev.step (f := fun _ => some true) (fun k => ?_) (Ev.now true)
  simp only [chanceryref1_SameFlow.l0]
  rw [if_neg (by omega)]
 | succ d ih =>
  intro i h0 hd
  have hlt : i < (f.length : Int) := by omega
  refine Ev.step (f := fun k => (chanceryref1_SameElem.f k (rd_T84 f i).f0 (rd_T84 f i).f1 (rd_T84 f i).f2 (rd_T84 f i).f0 (rd_T84 f i).f1 (rd_T84 f i).f2).bind fun t => if t = true then chanceryref1_SameFlow.l0 k f f (f.length : Int) (wrap64 (i + 1)) else some false) (fun k => ?_)
   (Ev.bind (same_elem_ev (rd_T84 f i) (hs.2 _ (rdf_mem h0 hlt)).1) (Ev.congr (fun k => ?_) (ih (i + 1) (by omega) (by omega))))
  ·simp only [chanceryref1_SameFlow.l0]
   rw [if_pos hlt, if_pos h0, if_pos hlt, if_pos hlt]
  ·rw [if_pos rfl, wrap_up h0 (by omega)]
theorem same_flow_ev (f : List S84) (hs : FSmall f) : Ev (fun k => chanceryref1_SameFlow.f k f f) true :=
 Ev.congr (fun k => by unfold chanceryref1_SameFlow.f; rw [if_pos rfl]) (same_flow f hs f.length 0 (by omega) (by omega))
abbrev Bs := List UInt8
def look : List S38 → Bs → Option Bs
 | [], _ => none
 | x :: l, n => if x.f0.toList = n then some x.f1.toList else look l n
theorem look_none {l : List S38} {n : Bs} (h : ∀ x ∈ l, x.f0.toList ≠ n) : look l n = none := by
 induction l with
 | nil => rfl
 | cons x l ih => rw [look, if_neg (h x List.mem_cons_self), ih (fun y hy => h y (List.mem_cons_of_mem _ hy))]
theorem look_above {l : List S38} {n : Bs} (h : ∀ x ∈ l, Op.bytesLess n x.f0.toList = true) : look l n = none :=
 look_none (fun x hx e => by have := h x hx; rw [e, Ord.less_irrefl] at this; cases this)
theorem look_mem {l : List S38} {x : S38} (hs : Srt l) (h : x ∈ l) : look l x.f0.toList = some x.f1.toList := by
 induction l with
 | nil => cases h
 | cons y l ih =>
  obtain ⟨h1, h2⟩ := List.pairwise_cons.1 hs
  rcases List.mem_cons.1 h with rfl | h
  ·rw [look, if_pos rfl]
  ·rw [look, if_neg (fun e => by have := h1 x h; unfold ltS at this; rw [e, Ord.less_irrefl] at this; cases this), ih h2 h]
theorem look_some {l : List S38} {n v : Bs} (h : look l n = some v) : ∃ x ∈ l, x.f0.toList = n ∧ x.f1.toList = v := by
 induction l with
 | nil => cases h
 | cons y l ih =>
  rw [look] at h
  by_cases e : y.f0.toList = n
  ·rw [if_pos e] at h
   exact ⟨y, List.mem_cons_self, e, Option.some.inj h⟩
  ·rw [if_neg e] at h
   obtain ⟨x, hx, h1⟩ := ih h
   exact ⟨x, List.mem_cons_of_mem _ hx, h1⟩
theorem s38_ext {x y : S38} (h0 : x.f0.toList = y.f0.toList) (h1 : x.f1.toList = y.f1.toList) : x = y := by
 cases x; cases y
 cases ba_ext h0
 cases ba_ext h1
 rfl
theorem look_ext {l l' : List S38} (h : Srt l) (h' : Srt l') (e : ∀ n, look l n = look l' n) : l = l' := by
 induction l generalizing l' with
 | nil =>
  cases l' with
  | nil => rfl
  | cons y t => have := e y.f0.toList; rw [look_mem h' List.mem_cons_self] at this; cases this
 | cons x t ih =>
  cases l' with
  | nil => have := e x.f0.toList; rw [look_mem h List.mem_cons_self] at this; cases this
  | cons y t' =>
   obtain ⟨h1, h2⟩ := List.pairwise_cons.1 h
   obtain ⟨h1', h2'⟩ := List.pairwise_cons.1 h'
   have hxy : x.f0.toList = y.f0.toList := by
    refine Ord.less_total ?_ ?_
    ·cases hl : Op.bytesLess x.f0.toList y.f0.toList with
     | false => rfl
     | true =>
      have := e x.f0.toList
      rw [look_mem h List.mem_cons_self, look_above (l := y :: t') (fun z hz => by rcases List.mem_cons.1 hz with rfl | hz; exact hl; exact Ord.less_trans hl (h1' z hz))] at this
      cases this
    ·cases hl : Op.bytesLess y.f0.toList x.f0.toList with
     | false => rfl
     | true =>
      have := e y.f0.toList
      rw [look_mem h' List.mem_cons_self, look_above (l := x :: t) (fun z hz => by rcases List.mem_cons.1 hz with rfl | hz; exact hl; exact Ord.less_trans hl (h1 z hz))] at this
      cases this
   have hv : x.f1.toList = y.f1.toList := by
    have := e x.f0.toList
    rw [look_mem h List.mem_cons_self, hxy, look_mem h' List.mem_cons_self] at this
    exact Option.some.inj this
   rw [s38_ext hxy hv]
   congr 1
   refine ih h2 h2' (fun n => ?_)
   by_cases hn : x.f0.toList = n
   ·rw [look_above (l := t) (fun z hz => by rw [← hn]; exact h1 z hz), look_above (l := t') (fun z hz => by rw [← hn, hxy]; exact h1' z hz)]
   ·have := e n
    rw [look, look, if_neg hn, if_neg (by rw [← hxy]; exact hn)] at this
    exact this
def mrg (E : S38 → S38 → Option S38) : List S38 → List S38 → List S38
 | [], [] => []
 | x :: a, [] => (E x nil38).toList ++ mrg E a []
 | [], y :: b => (E nil38 y).toList ++ mrg E [] b
 | x :: a, y :: b => if ltS x y = true then (E x nil38).toList ++ mrg E a (y :: b) else if ltS y x = true then (E nil38 y).toList ++ mrg E (x :: a) b else (E x y).toList ++ mrg E a b
termination_by a b => a.length + b.length
theorem bothL_mrg (V : List S38 → S38 → S38 → List S38) (E : S38 → S38 → Option S38) (h : ∀ o x y, V o x y = o ++ (E x y).toList) : ∀ (a b o : List S38), bothL V o a b = o ++ mrg E a b := by
 intro a b
 induction a, b using mrg.induct with
 | case1 => intro o; rw [bothL, mrg, List.append_nil]
 | case2 x a ih => intro o; rw [bothL, mrg, ih, h]; exact List.append_assoc _ _ _
 | case3 y b ih => intro o; rw [bothL, mrg, ih, h]; exact List.append_assoc _ _ _
 | case4 x a y b hlt ih => intro o; rw [bothL, mrg, if_pos hlt, if_pos hlt, ih, h]; exact List.append_assoc _ _ _
 | case5 x a y b hlt hlt' ih => intro o; rw [bothL, mrg, if_neg hlt, if_neg hlt, if_pos hlt', if_pos hlt', ih, h]; exact List.append_assoc _ _ _
 | case6 x a y b hlt hlt' ih => intro o; rw [bothL, mrg, if_neg hlt, if_neg hlt, if_neg hlt', if_neg hlt', ih, h]; exact List.append_assoc _ _ _
structure Tells (E : S38 → S38 → Option S38) (F : Option Bs → Option Bs → Option Bs) : Prop where
 nil : F none none = none
 left : ∀ x, x.f0.toList ≠ [] → (∀ z, E x nil38 = some z → z.f0 = x.f0) ∧ (E x nil38).map (·.f1.toList) = F (some x.f1.toList) none
 right : ∀ y, y.f0.toList ≠ [] → (∀ z, E nil38 y = some z → z.f0 = y.f0) ∧ (E nil38 y).map (·.f1.toList) = F none (some y.f1.toList)
 mid : ∀ x y, x.f0.toList = y.f0.toList → x.f0.toList ≠ [] → (∀ z, E x y = some z → z.f0 = x.f0) ∧ (E x y).map (·.f1.toList) = F (some x.f1.toList) (some y.f1.toList)
def Named (l : List S38) : Prop := ∀ x ∈ l, x.f0.toList ≠ []
theorem look_opt {o : Option S38} {l : List S38} {n : Bs} {nm : ByteArray} {v : Option Bs} (h : ∀ z, o = some z → z.f0 = nm) (hv : o.map (·.f1.toList) = v) (hl : look l nm.toList = Option.none) :
  look (o.toList ++ l) n = if nm.toList = n then v else look l n := by
 cases o with
 | none =>
  have : v = Option.none := hv.symm
  subst this
  by_cases e : nm.toList = n
  ·rw [if_pos e]; show look l n = _; rw [← e]; exact hl
  ·rw [if_neg e]; rfl
 | some z =>
  have hz := h z rfl
  have : v = some z.f1.toList := hv.symm
  subst this
  show look (z :: l) n = _
  rw [look, hz]
theorem mrg_spec {E : S38 → S38 → Option S38} {F : Option Bs → Option Bs → Option Bs} (T : Tells E F) : ∀ (a b : List S38), Srt a → Srt b → Named a → Named b →
  Srt (mrg E a b) ∧ (∀ n, look (mrg E a b) n = F (look a n) (look b n)) ∧ (∀ z ∈ mrg E a b, (∃ x ∈ a, z.f0 = x.f0) ∨ (∃ y ∈ b, z.f0 = y.f0)) := by
 have step : ∀ (o : Option S38) (l : List S38) (nm : ByteArray) (v : Option Bs), (∀ z, o = some z → z.f0 = nm) → (∀ z ∈ l, Op.bytesLess nm.toList z.f0.toList = true) → Srt l → Srt (o.toList ++ l) := by
  intro o l nm v h hl hs
  cases o with
  | none => exact hs
  | some z =>
   refine List.Pairwise.cons (fun y hy => ?_) hs
   show Op.bytesLess z.f0.toList _ = true
   rw [h z rfl]
   exact hl y hy
 intro a b
 induction a, b using mrg.induct with
 | case1 => intro _ _ _ _; rw [mrg]; exact ⟨List.Pairwise.nil, fun n => T.nil.symm, fun z hz => by cases hz⟩
 | case2 x a ih =>
  intro ha hb na nb
  obtain ⟨h1, h2⟩ := List.pairwise_cons.1 ha
  obtain ⟨i1, i2, i3⟩ := ih h2 hb (fun z hz => na z (List.mem_cons_of_mem _ hz)) nb
  obtain ⟨e1, e2⟩ := T.left x (na x List.mem_cons_self)
  have hab : ∀ z ∈ mrg E a [], Op.bytesLess x.f0.toList z.f0.toList = true := fun z hz => by
   rcases i3 z hz with ⟨u, hu, e⟩ | ⟨u, hu, e⟩
   ·rw [e]; exact h1 u hu
   ·cases hu
  rw [mrg]
  refine ⟨step _ _ x.f0 none e1 hab i1, fun n => ?_, fun z hz => ?_⟩
  ·rw [look_opt e1 e2 (look_above hab), i2 n]
   by_cases e : x.f0.toList = n
   ·rw [if_pos e, show look (x :: a) n = some x.f1.toList by rw [look, if_pos e]]; rfl
   ·rw [if_neg e, show look (x :: a) n = look a n by rw [look, if_neg e]]
  ·rcases List.mem_append.1 hz with hz | hz
   ·exact .inl ⟨x, List.mem_cons_self, e1 z (by simpa using hz)⟩
   ·rcases i3 z hz with ⟨u, hu, e⟩ | h
    ·exact .inl ⟨u, List.mem_cons_of_mem _ hu, e⟩
    ·exact .inr h
 | case3 y b ih =>
  intro ha hb na nb
  obtain ⟨h1, h2⟩ := List.pairwise_cons.1 hb
  obtain ⟨i1, i2, i3⟩ := ih ha h2 na (fun z hz => nb z (List.mem_cons_of_mem _ hz))
  obtain ⟨e1, e2⟩ := T.right y (nb y List.mem_cons_self)
  have hab : ∀ z ∈ mrg E [] b, Op.bytesLess y.f0.toList z.f0.toList = true := fun z hz => by
   rcases i3 z hz with ⟨u, hu, e⟩ | ⟨u, hu, e⟩
   ·cases hu
   ·rw [e]; exact h1 u hu
  rw [mrg]
  refine ⟨step _ _ y.f0 none e1 hab i1, fun n => ?_, fun z hz => ?_⟩
  ·rw [look_opt e1 e2 (look_above hab), i2 n]
   by_cases e : y.f0.toList = n
   ·rw [if_pos e, show look (y :: b) n = some y.f1.toList by rw [look, if_pos e]]; rfl
   ·rw [if_neg e, show look (y :: b) n = look b n by rw [look, if_neg e]]
  ·rcases List.mem_append.1 hz with hz | hz
   ·exact .inr ⟨y, List.mem_cons_self, e1 z (by simpa using hz)⟩
   ·rcases i3 z hz with h | ⟨u, hu, e⟩
    ·exact .inl h
    ·exact .inr ⟨u, List.mem_cons_of_mem _ hu, e⟩
 | case4 x a y b hlt ih =>
  intro ha hb na nb
  obtain ⟨h1, h2⟩ := List.pairwise_cons.1 ha
  obtain ⟨h1', h2'⟩ := List.pairwise_cons.1 hb
  obtain ⟨i1, i2, i3⟩ := ih h2 hb (fun z hz => na z (List.mem_cons_of_mem _ hz)) nb
  obtain ⟨e1, e2⟩ := T.left x (na x List.mem_cons_self)
  have hyb : ∀ z ∈ y :: b, Op.bytesLess x.f0.toList z.f0.toList = true := fun z hz => by
   rcases List.mem_cons.1 hz with rfl | hz
   ·exact hlt
   ·exact Ord.less_trans hlt (h1' z hz)
  have hab : ∀ z ∈ mrg E a (y :: b), Op.bytesLess x.f0.toList z.f0.toList = true := fun z hz => by
   rcases i3 z hz with ⟨u, hu, e⟩ | ⟨u, hu, e⟩
   ·rw [e]; exact h1 u hu
   ·rw [e]; exact hyb u hu
  rw [mrg, if_pos hlt]
  refine ⟨step _ _ x.f0 none e1 hab i1, fun n => ?_, fun z hz => ?_⟩
  ·rw [look_opt e1 e2 (look_above hab), i2 n]
   by_cases e : x.f0.toList = n
   ·rw [if_pos e]
    rw [show look (x :: a) n = some x.f1.toList by rw [look, if_pos e], look_above (l := y :: b) (by rw [← e]; exact hyb)]
   ·rw [if_neg e]
    rw [show look (x :: a) n = look a n by rw [look, if_neg e]]
  ·rcases List.mem_append.1 hz with hz | hz
   ·exact .inl ⟨x, List.mem_cons_self, e1 z (by simpa using hz)⟩
   ·rcases i3 z hz with ⟨u, hu, e⟩ | h
    ·exact .inl ⟨u, List.mem_cons_of_mem _ hu, e⟩
    ·exact .inr h
 | case5 x a y b hlt hlt' ih =>
  intro ha hb na nb
  obtain ⟨h1, h2⟩ := List.pairwise_cons.1 ha
  obtain ⟨h1', h2'⟩ := List.pairwise_cons.1 hb
  obtain ⟨i1, i2, i3⟩ := ih ha h2' na (fun z hz => nb z (List.mem_cons_of_mem _ hz))
  obtain ⟨e1, e2⟩ := T.right y (nb y List.mem_cons_self)
  have hxa : ∀ z ∈ x :: a, Op.bytesLess y.f0.toList z.f0.toList = true := fun z hz => by
   rcases List.mem_cons.1 hz with rfl | hz
   ·exact hlt'
   ·exact Ord.less_trans hlt' (h1 z hz)
  have hab : ∀ z ∈ mrg E (x :: a) b, Op.bytesLess y.f0.toList z.f0.toList = true := fun z hz => by
   rcases i3 z hz with ⟨u, hu, e⟩ | ⟨u, hu, e⟩
   ·rw [e]; exact hxa u hu
   ·rw [e]; exact h1' u hu
  rw [mrg, if_neg hlt, if_pos hlt']
  refine ⟨step _ _ y.f0 none e1 hab i1, fun n => ?_, fun z hz => ?_⟩
  ·rw [look_opt e1 e2 (look_above hab), i2 n]
   by_cases e : y.f0.toList = n
   ·rw [if_pos e]
    rw [show look (y :: b) n = some y.f1.toList by rw [look, if_pos e], look_above (l := x :: a) (by rw [← e]; exact hxa)]
   ·rw [if_neg e]
    rw [show look (y :: b) n = look b n by rw [look, if_neg e]]
  ·rcases List.mem_append.1 hz with hz | hz
   ·exact .inr ⟨y, List.mem_cons_self, e1 z (by simpa using hz)⟩
   ·rcases i3 z hz with h | ⟨u, hu, e⟩
    ·exact .inl h
    ·exact .inr ⟨u, List.mem_cons_of_mem _ hu, e⟩
 | case6 x a y b hlt hlt' ih =>
  intro ha hb na nb
  obtain ⟨h1, h2⟩ := List.pairwise_cons.1 ha
  obtain ⟨h1', h2'⟩ := List.pairwise_cons.1 hb
  obtain ⟨i1, i2, i3⟩ := ih h2 h2' (fun z hz => na z (List.mem_cons_of_mem _ hz)) (fun z hz => nb z (List.mem_cons_of_mem _ hz))
  have hxy : x.f0.toList = y.f0.toList := Ord.less_total (Bool.eq_false_iff.2 hlt) (Bool.eq_false_iff.2 hlt')
  obtain ⟨e1, e2⟩ := T.mid x y hxy (na x List.mem_cons_self)
  have hab : ∀ z ∈ mrg E a b, Op.bytesLess x.f0.toList z.f0.toList = true := fun z hz => by
   rcases i3 z hz with ⟨u, hu, e⟩ | ⟨u, hu, e⟩
   ·rw [e]; exact h1 u hu
   ·rw [e, hxy]; exact h1' u hu
  rw [mrg, if_neg hlt, if_neg hlt']
  refine ⟨step _ _ x.f0 none e1 hab i1, fun n => ?_, fun z hz => ?_⟩
  ·rw [look_opt e1 e2 (look_above hab), i2 n, look, look, ← hxy]
   by_cases e : x.f0.toList = n
   ·rw [if_pos e, if_pos e, if_pos e]
   ·rw [if_neg e, if_neg e, if_neg e]
  ·rcases List.mem_append.1 hz with hz | hz
   ·exact .inl ⟨x, List.mem_cons_self, e1 z (by simpa using hz)⟩
   ·rcases i3 z hz with ⟨u, hu, e⟩ | ⟨u, hu, e⟩
    ·exact .inl ⟨u, List.mem_cons_of_mem _ hu, e⟩
    ·exact .inr ⟨u, List.mem_cons_of_mem _ hu, e⟩
theorem mrg_len (E : S38 → S38 → Option S38) : ∀ a b : List S38, (mrg E a b).length ≤ a.length + b.length := by
 have o1 : ∀ o : Option S38, o.toList.length ≤ 1 := fun o => by cases o <;> simp
 intro a b
 induction a, b using mrg.induct with
 | case1 => rw [mrg]; simp
 | case2 x a ih => rw [mrg, List.length_append]; have := o1 (E x nil38); simp only [List.length_cons, List.length_nil] at *; omega
 | case3 y b ih => rw [mrg, List.length_append]; have := o1 (E nil38 y); simp only [List.length_cons, List.length_nil] at *; omega
 | case4 x a y b hlt ih => rw [mrg, if_pos hlt, List.length_append]; have := o1 (E x nil38); simp only [List.length_cons, List.length_nil] at *; omega
 | case5 x a y b hlt hlt' ih => rw [mrg, if_neg hlt, if_pos hlt', List.length_append]; have := o1 (E nil38 y); simp only [List.length_cons, List.length_nil] at *; omega
 | case6 x a y b hlt hlt' ih => rw [mrg, if_neg hlt, if_neg hlt', List.length_append]; have := o1 (E x y); simp only [List.length_cons] at *; omega
def rawE (x y : S38) : Option S38 := if y.f0.toList = [] then some x else if y.f1.toList = [] then none else some y
def changeE (x y : S38) : Option S38 := if y.f0.toList = [] then some ⟨x.f0, ⟨#[]⟩⟩ else if x.f0.toList = y.f0.toList ∧ x.f1.toList = y.f1.toList then none else some y
def Fr : Option Bs → Option Bs → Option Bs
 | u, none => u
 | _, some v => if v = [] then none else some v
def Fc : Option Bs → Option Bs → Option Bs
 | none, v => v
 | some _, none => some []
 | some u, some v => if u = v then none else some v
theorem nil_name : nil38.f0.toList = [] := list_nil.2 rfl
theorem nil_list : (⟨#[]⟩ : ByteArray).toList = [] := list_nil.2 rfl
theorem raw_tells : Tells rawE Fr where
 nil := rfl
 left x hx := by
  have : rawE x nil38 = some x := by unfold rawE; rw [if_pos nil_name]
  rw [this]
  exact ⟨fun z hz => by rw [Option.some.inj hz], rfl⟩
 right y hy := by
  unfold rawE Fr
  rw [if_neg hy]
  by_cases e : y.f1.toList = []
  ·rw [if_pos e]; exact ⟨(fun z hz => by cases hz), by simp [e]⟩
  ·rw [if_neg e]; exact ⟨(fun z hz => by rw [Option.some.inj hz]), by simp [e]⟩
 mid x y h hx := by
  unfold rawE Fr
  rw [if_neg (by rw [← h]; exact hx)]
  by_cases e : y.f1.toList = []
  ·rw [if_pos e]; exact ⟨(fun z hz => by cases hz), by simp [e]⟩
  ·rw [if_neg e]; exact ⟨(fun z hz => by rw [← Option.some.inj hz]; exact (ba_ext h).symm), by simp [e]⟩
theorem change_tells : Tells changeE Fc where
 nil := rfl
 left x hx := by
  unfold changeE
  rw [if_pos nil_name]
  exact ⟨(fun z hz => by rw [← Option.some.inj hz]), by simp [Fc]⟩
 right y hy := by
  unfold changeE
  rw [if_neg hy, if_neg (fun h => hy (by rw [← h.1]; exact nil_name))]
  exact ⟨(fun z hz => by rw [Option.some.inj hz]), rfl⟩
 mid x y h hx := by
  unfold changeE Fc
  rw [if_neg (by rw [← h]; exact hx)]
  by_cases e : x.f1.toList = y.f1.toList
  ·rw [if_pos ⟨h, e⟩]; exact ⟨(fun z hz => by cases hz), by simp [e]⟩
  ·rw [if_neg (fun h' => e h'.2)]; exact ⟨(fun z hz => by rw [← Option.some.inj hz]; exact (ba_ext h).symm), by simp [e]⟩
def VL (ch : Bool) (w : Bs) : Prop := ∃ s : ByteArray, s.toList = w ∧ (ValOK s ∨ (ch = true ∧ s.size = 0))
def OV (ch : Bool) (u : Option Bs) : Prop := ∀ w, u = some w → VL ch w
theorem VL.ne {w : Bs} (h : VL false w) : w ≠ [] := by
 obtain ⟨s, rfl, h | ⟨h, _⟩⟩ := h
 ·intro e; have := list_nil.1 e; have := h.1; omega
 ·cases h
theorem VL.mono {ch : Bool} {w : Bs} (h : VL false w) : VL ch w := by
 obtain ⟨s, e, h | ⟨h, _⟩⟩ := h
 ·exact ⟨s, e, .inl h⟩
 ·cases h
theorem VL.strict {ch : Bool} {w : Bs} (h : VL ch w) (hw : w ≠ []) : VL false w := by
 obtain ⟨s, e, h | ⟨_, h⟩⟩ := h
 ·exact ⟨s, e, .inl h⟩
 ·exact absurd (e ▸ list_nil.2 h) hw
theorem ov_look {ch : Bool} {l : List S38} (h : VA ch l) (n : Bs) : OV ch (look l n) := by
 intro w hw
 obtain ⟨x, hx, _, e⟩ := look_some hw
 exact ⟨x.f1, e, (h.1 x hx).2⟩
theorem va_named {ch : Bool} {l : List S38} (h : VA ch l) : Named l := fun x hx e => by
 have := (h.1 x hx).1.1
 have := list_nil.1 e
 omega
theorem va_mrg {E : S38 → S38 → Option S38} {F : Option Bs → Option Bs → Option Bs} (T : Tells E F) {c1 c2 ch : Bool} {a b : List S38} (ha : VA c1 a) (hb : VA c2 b)
  (hF : ∀ u v, OV c1 u → OV c2 v → OV ch (F u v)) : VA ch (mrg E a b) := by
 obtain ⟨h1, h2, h3⟩ := mrg_spec T a b ha.2 hb.2 (va_named ha) (va_named hb)
 refine ⟨fun z hz => ⟨?_, ?_⟩, h1⟩
 ·rcases h3 z hz with ⟨x, hx, e⟩ | ⟨x, hx, e⟩
  ·rw [e]; exact (ha.1 x hx).1
  ·rw [e]; exact (hb.1 x hx).1
 ·have := look_mem h1 hz
  rw [h2] at this
  obtain ⟨s, hs, hv⟩ := hF _ _ (ov_look ha _) (ov_look hb _) _ this
  rw [← ba_ext hs]
  exact hv
theorem ov_raw {c : Bool} {u v : Option Bs} (hu : OV false u) (hv : OV c v) : OV false (Fr u v) := by
 intro w hw
 cases v with
 | none => exact hu w hw
 | some v =>
  simp only [Fr] at hw
  by_cases e : v = []
  ·rw [if_pos e] at hw; cases hw
  ·rw [if_neg e] at hw
   obtain rfl := Option.some.inj hw
   exact (hv v rfl).strict e
theorem ov_change {u v : Option Bs} (hu : OV false u) (hv : OV false v) : OV true (Fc u v) := by
 intro w hw
 cases u with
 | none => exact (hv w hw).mono
 | some u =>
  cases v with
  | none =>
   obtain rfl := Option.some.inj hw
   exact ⟨⟨#[]⟩, nil_list, .inr ⟨rfl, rfl⟩⟩
  | some v =>
   simp only [Fc] at hw
   by_cases e : u = v
   ·rw [if_pos e] at hw; cases hw
   ·rw [if_neg e] at hw
    obtain rfl := Option.some.inj hw
    exact (hv v rfl).mono
theorem fr_fc {M L : Option Bs} (hL : OV false L) : Fr M (Fc M L) = L := by
 cases L with
 | none => cases M <;> rfl
 | some v =>
  have hv := (hL v rfl).ne
  cases M with
  | none => simp only [Fc, Fr]; rw [if_neg hv]
  | some u =>
   simp only [Fc]
   by_cases e : u = v
   ·rw [if_pos e, e]; rfl
   ·rw [if_neg e]; simp only [Fr]; rw [if_neg hv]
theorem fold_mrg {V : List S38 → S38 → S38 → List S38} {E : S38 → S38 → Option S38} (h : ∀ o x y, V o x y = o ++ (E x y).toList) (a b : List S38) : bothL V [] a b = mrg E a b := by rw [bothL_mrg V E h, List.nil_append]
theorem rawV_E (o : List S38) (x y : S38) : rawV o x y = o ++ (rawE x y).toList := by
 unfold rawV rawE
 by_cases h1 : y.f0.toList = []
 ·rw [if_pos h1, if_pos h1]; rfl
 ·rw [if_neg h1, if_neg h1]
  by_cases h2 : y.f1.toList = []
  ·rw [if_pos h2, if_pos h2]; exact (List.append_nil _).symm
  ·rw [if_neg h2, if_neg h2]; rfl
theorem changeV_E (o : List S38) (x y : S38) : changeV o x y = o ++ (changeE x y).toList := by
 unfold changeV changeE
 by_cases h1 : y.f0.toList = []
 ·rw [if_pos h1, if_pos h1]; rfl
 ·rw [if_neg h1, if_neg h1]
  by_cases h2 : x.f0.toList = y.f0.toList ∧ x.f1.toList = y.f1.toList
  ·rw [if_pos h2, if_pos h2]; exact (List.append_nil _).symm
  ·rw [if_neg h2, if_neg h2]; rfl
theorem raw_f {a b : List S38} (ha : a.length ≤ 1073741824) (hb : b.length ≤ 1073741824) : attr_Raw.f a b = some (mrg rawE a b) := by
 unfold attr_Raw.f; rw [if_pos (by omega), fold_mrg rawV_E]
theorem change_f {a b : List S38} (ha : a.length ≤ 1073741824) (hb : b.length ≤ 1073741824) : attr_Change.f a b = some (mrg changeE a b) := by
 unfold attr_Change.f; rw [if_pos (by omega), fold_mrg changeV_E]
theorem va_raw {l c : List S38} (vl : VA false l) (vc : VA true c) : VA false (mrg rawE l c) := va_mrg raw_tells vl vc (fun _ _ => ov_raw)
theorem va_change {a b : List S38} (va : VA false a) (vb : VA false b) : VA true (mrg changeE a b) := va_mrg change_tells va vb (fun _ _ => ov_change)
theorem look_raw {l c : List S38} (vl : VA false l) (vc : VA true c) (n : Bs) : look (mrg rawE l c) n = Fr (look l n) (look c n) := (mrg_spec raw_tells l c vl.2 vc.2 (va_named vl) (va_named vc)).2.1 n
theorem look_change {a b : List S38} (va : VA false a) (vb : VA false b) (n : Bs) : look (mrg changeE a b) n = Fc (look a n) (look b n) := (mrg_spec change_tells a b va.2 vb.2 (va_named va) (va_named vb)).2.1 n
theorem lead_back {m l : List S38} (vm : VA false m) (vl : VA false l) : mrg rawE m (mrg changeE m l) = l :=
 look_ext (va_raw vm (va_change vm vl)).2 vl.2 (fun n => by rw [look_raw vm (va_change vm vl), look_change vm vl, fr_fc (ov_look vl n)])
structure Moves2 (wI w : World) (g : Nat) (vI uI v u : Value) : Prop where
 size : wI.heap.size ≤ w.heap.size
 frame : ∀ k, k < wI.heap.size → k ≠ g → some k ≠ vI.ownBlock → some k ≠ uI.ownBlock → w.heap[k]? = wI.heap[k]?
 ownv : v.ownBlock = vI.ownBlock ∨ ∃ b, v.ownBlock = some b ∧ wI.heap.size ≤ b
 ownu : u.ownBlock = uI.ownBlock ∨ u.ownBlock = none ∨ ∃ b, u.ownBlock = some b ∧ wI.heap.size ≤ b
theorem Moves2.refl (w : World) (g : Nat) (v u : Value) : Moves2 w w g v u v u := ⟨Nat.le_refl _, fun _ _ _ _ _ => rfl, .inl rfl, .inl rfl⟩
structure WrO (ok : Nat → Prop) (w0 wI : World) (g : Nat) (vI uI : Value) (out : List S70) (cut : Int) (v u : Value) (w : World) : Prop where
 ge : w0.heap.size ≤ g
 blk : w.heap[g]? = some (.cells #[v, u, .int .i64 cut] 127 (0, 0))
 row : Kd.N k70 70 w w0.heap.size (fun k => ok k ∧ k ≠ g) v out
 bel : Below w0.heap.size w0 w
 mv : Moves2 wI w g vI uI v u
structure WrD (ok : Nat → Prop) (w0 wI : World) (g : Nat) (vI uI : Value) (out : List S70) (add : List S84) (cut : Int) (v u : Value) (w : World) : Prop where
 ge : w0.heap.size ≤ g
 blk : w.heap[g]? = some (.cells #[v, u, .int .i64 cut] 127 (0, 0))
 row : Kd.N k70 70 w w0.heap.size (fun k => (ok k ∧ k ≠ g) ∧ some k ≠ u.ownBlock) v out
 radd : Kd.N k84 84 w w0.heap.size (fun k => (ok k ∧ k ≠ g) ∧ some k ≠ v.ownBlock) u add
 bel : Below w0.heap.size w0 w
 mv : Moves2 wI w g vI uI v u
section
variable {ok : Nat → Prop} {w0 wI w w1 : World} {g : Nat} {vI uI v u v1 u1 : Value} {out out' : List S70} {add add' : List S84} {cut : Int}
theorem WrD.weak (h : WrD ok w0 wI g vI uI out add cut v u w) : WrO ok w0 wI g vI uI out cut v u w := ⟨h.ge, h.blk, Kd.N_mono h.row (fun _ hk => hk.1), h.bel, h.mv⟩
theorem WrO.drew (h : WrO ok w0 wI g vI uI out cut v u w) : WrO ok w0 wI g vI uI out cut v u w.drew :=
 ⟨h.ge, blk_drew h.blk, Kd.N_drew h.row, below_drew1 h.bel, ⟨h.mv.size, h.mv.frame, h.mv.ownv, h.mv.ownu⟩⟩
theorem WrD.drew (h : WrD ok w0 wI g vI uI out add cut v u w) : WrD ok w0 wI g vI uI out add cut v u w.drew :=
 ⟨h.ge, blk_drew h.blk, Kd.N_drew h.row, Kd.N_drew h.radd, below_drew1 h.bel, ⟨h.mv.size, h.mv.frame, h.mv.ownv, h.mv.ownu⟩⟩
theorem WrD.drewN (h : WrD ok w0 wI g vI uI out add cut v u w) (n : Nat) : WrD ok w0 wI g vI uI out add cut v u (w.drewN n) :=
 ⟨h.ge, blk_drewN h.blk n, Kd.N_drewN h.row n, Kd.N_drewN h.radd n, pw_below_drewN h.bel n, ⟨h.mv.size, h.mv.frame, h.mv.ownv, h.mv.ownu⟩⟩
theorem mv_set (h : Moves2 wI w g vI uI v u) (j : Nat) (x : Value) : Moves2 wI (w.setCell ⟨g, j, none⟩ x) g vI uI v u :=
 ⟨by have := h.size; simp [World.setCell]; omega, fun k hk hgk hv hu => by rw [Below.heap_setCell _ _ _ _ hgk, h.frame k hk hgk hv hu], h.ownv, h.ownu⟩
theorem mv_app (h : Moves2 wI w g vI uI v u) (hg : w.grownBy w1 v.ownBlock) (hat : v1.ownBlock = v.ownBlock ∨ ∃ b, v1.ownBlock = some b ∧ w.heap.size ≤ b) : Moves2 wI w1 g vI uI v1 u := by
 refine ⟨Nat.le_trans h.size hg.size, fun k hk hgk hv hu => ?_, ?_, h.ownu⟩
 ·rw [hg.block k (Nat.lt_of_lt_of_le hk h.size) ?_, h.frame k hk hgk hv hu]
  rcases h.ownv with e | ⟨b, e, hb⟩
  ·rw [e]; exact hv
  ·rw [e]; intro h'; injection h' with h'; omega
 ·rcases hat with e | ⟨b, e, hb⟩
  ·rw [e]; exact h.ownv
  ·exact .inr ⟨b, e, Nat.le_trans h.size hb⟩
theorem WrO.app (h : WrO ok w0 wI g vI uI out cut v u w) (hR : Kd.N k70 70 w1 w0.heap.size (fun k => ok k ∧ k ≠ g) v1 out') (hB : Below w0.heap.size w0 w1) (hg : w.grownBy w1 v.ownBlock)
  (hat : v1.ownBlock = v.ownBlock ∨ ∃ b, v1.ownBlock = some b ∧ w.heap.size ≤ b) :
  w1.heap[g]? = some (.cells #[v, u, .int .i64 cut] 127 (0, 0)) ∧ WrO ok w0 wI g vI uI out' cut v1 u (w1.setCell ⟨g, 0, none⟩ v1) := by
 have hb := blk_grown h.blk hg (Kd.N_away h.row (fun _ hk => hk.2))
 exact ⟨hb, h.ge, blk_put hb 0 v1 rfl, Kd.N_far hR (fun _ hk => hk.2) v1, below_set hB h.ge, mv_set (mv_app h.mv hg hat) 0 v1⟩
theorem WrO.clear (h : WrO ok w0 wI g vI uI out cut v u w) : WrD ok w0 wI g vI uI out [] 0 v (.slice none 0 0) ((w.setCell ⟨g, 1, none⟩ (.slice none 0 0)).setCell ⟨g, 2, none⟩ (.int .i64 0)) := by
 refine ⟨h.ge, blk_put (blk_put h.blk 1 (.slice none 0 0) rfl) 2 (.int .i64 0) rfl, Kd.N_mono (Kd.N_far (Kd.N_far h.row (fun _ hk => hk.2) _) (fun _ hk => hk.2) _) (fun k hk => ⟨hk, by simp [Value.ownBlock]⟩), Kd.N_nil _ _ _ _ _, below_set (below_set h.bel h.ge) h.ge, ?_⟩
 have m := mv_set (mv_set h.mv 1 (.slice none 0 0)) 2 (.int .i64 0)
 exact ⟨m.size, m.frame, m.ownv, .inr (.inl rfl)⟩
end
def addD (out : List S70) (add : List S84) : List S70 := if 0 < add.length then out ++ [⟨1, 0, [], add⟩] else out
def cutD (out : List S70) (cut : Int) : List S70 := if 0 < cut then out ++ [⟨2, cut, [], []⟩] else out
def flushD (out : List S70) (add : List S84) (cut : Int) : List S70 := cutD (addD out add) cut
set_option maxRecDepth 100000 in
set_option maxHeartbeats 8000000 in
theorem flush_calls (ok : Nat → Prop) (w0 : World) (g : Nat) (out : List S70) (add : List S84) (cut : Int) (vI uI : Value) (w : World) (h : WrD ok w0 w g vI uI out add cut vI uI w) (hok : ∀ k, w.heap.size ≤ k → ok k) (hl : (out.length + 2) * 64 ≤ 140737488355328) :
  Calls Try.prog 110 #[.pointer (some ⟨g, 0, none⟩)] w fun e w' => e = .returned (.tuple #[]) ∧ ∃ v, WrD ok w0 w g vI uI (flushD out add cut) [] 0 v (.slice none 0 0) w' := by
 have hu70 := Try.underlying70
 have hu127 := Try.underlying127
 obtain ⟨AI, cI, hvI⟩ := Kd.N_slice h.row
 obtain ⟨BI, dI, huI⟩ := Kd.N_slice h.radd
 subst hvI
 subst huI
 have HS := Aside0.mk h
 have HO := Aside0.mk hok
 have HL := Aside0.mk hl
 clear h hok hl
 obtain ⟨ta, hta⟩ : ∃ t : Bool, decide (0 < (add.length : Int)) = t := ⟨_, rfl⟩
 have hta2 : decide (0 < add.length) = ta := by rw [← hta]; exact decide_eq_decide.mpr (by omega)
 have hc0 : w.cell? ⟨g, 0, none⟩ = some (.slice AI out.length cI) := (blk_cell HS.out.blk 0).trans rfl
 have hc1 : w.cell? ⟨g, 1, none⟩ = some (.slice BI add.length dI) := (blk_cell HS.out.blk 1).trans rfl
 have hc2 : w.cell? ⟨g, 2, none⟩ = some (.int .i64 cut) := (blk_cell HS.out.blk 2).trans rfl
 go_enter Try.func110, Try.ntmps110
 go_upto_if 7 with (fail)
 go_cut [] (fun wc => ∃ (A1 : Option Addr) (n1 : Nat), Aside0 (WrO ok w0 w g (.slice AI out.length cI) (.slice BI add.length dI) (addD out add) cut (.slice A1 (addD out add).length n1) (.slice BI add.length dI) wc))
 case first =>
  cases ta with
  | false =>
   have hadd := of_decide_eq_false hta2
   have e : addD out add = out := if_neg hadd
   go_wp2
   go_meet
   case rel => exact ⟨AI, cI, ⟨by rw [e]; exact HS.out.weak⟩⟩
  | true =>
   have hadd := of_decide_eq_true hta2
   have e : addD out add = out ++ [⟨1, 0, [], add⟩] := if_pos hadd
   have HE := Aside0.mk e
   clear hadd e
   have HD := Aside0.mk HS.out.drew
   have HDO := Aside0.mk HS.out.weak.drew
   go_upto_region 1 with (fail)
   refine start_ (n := 15) (S := fun w' => w'.cell? ⟨g, 0, none⟩ = some (.slice AI out.length cI) ∧ w'.cell? ⟨g, 1, none⟩ = some (.slice BI add.length dI)) (ds := [14]) #[false, false, false, false, false, false, false, false, false, false, false, false, false, false, false] (by kernel_rfl) rfl rfl ⟨((blk_cell HD.out.blk 0).trans rfl), ((blk_cell HD.out.blk 1).trans rfl)⟩ (fun hHeld => ?_)
   refine pure_ (i := 0) (N := some 8) (v := ?_) (a' := ?_) (bm 1 15) rfl rfl (by kernel_rfl) (fun _ _ _ h => h) (Or.inl ⟨by rfl, ?_⟩) ?_ ?_
   rotate_left
   ·intro w'
    go_simp
    with_reducible rfl
   rotate_left
   ·simp only [Act.put, sA, sB, sC, i64_w, i32_w]
    rfl
   refine pure_ (i := 1) (N := some 9) (v := ?_) (a' := ?_) (bm 3 15) rfl rfl (by kernel_rfl) (fun _ _ _ h => h) (Or.inl ⟨by rfl, ?_⟩) ?_ ?_
   rotate_left
   ·intro w'
    go_simp
    with_reducible rfl
   rotate_left
   ·simp only [Act.put, sA, sB, sC, i64_w, i32_w]
    rfl
   refine pure_ (i := 2) (N := some 10) (v := ?_) (a' := ?_) (bm 7 15) rfl rfl (by kernel_rfl) (fun _ _ _ h => h) (Or.inl ⟨by rfl, ?_⟩) ?_ ?_
   rotate_left
   ·intro w'
    go_simp
    with_reducible rfl
   rotate_left
   ·simp only [Act.put, sA, sB, sC, i64_w, i32_w]
    rfl
   refine pure_ (i := 3) (N := some 11) (v := ?_) (a' := ?_) (bm 15 15) rfl rfl (by kernel_rfl) (fun _ _ _ h => h) (Or.inl ⟨by rfl, ?_⟩) ?_ ?_
   rotate_left
   ·intro w'
    go_simp
    with_reducible rfl
   rotate_left
   ·simp only [Act.put, sA, sB, sC, i64_w, i32_w]
    rfl
   refine pure_ (i := 5) (N := some 13) (v := ?_) (a' := ?_) (bm 47 15) rfl rfl (by kernel_rfl) (fun _ _ _ h => h) (Or.inl ⟨by rfl, ?_⟩) ?_ ?_
   rotate_left
   ·intro w'
    go_simp
    with_reducible rfl
   rotate_left
   ·simp only [Act.put, sA, sB, sC, i64_w, i32_w]
    rfl
   refine pure_ (i := 6) (N := some 14) (v := ?_) (a' := ?_) (bm 111 15) rfl rfl (by kernel_rfl) (fun _ _ _ h => h) (Or.inl ⟨by rfl, ?_⟩) ?_ ?_
   rotate_left
   ·intro w'
    go_simp
    with_reducible rfl
   rotate_left
   ·simp only [Act.put, sA, sB, sC, i64_w, i32_w]
    rfl
   refine pure_ (i := 7) (N := some 15) (v := ?_) (a' := ?_) (bm 239 15) rfl rfl (by kernel_rfl) (fun _ _ _ h => h) (Or.inl ⟨by rfl, ?_⟩) ?_ ?_
   rotate_left
   ·intro w'
    go_simp
    with_reducible rfl
   rotate_left
   ·simp only [Act.put, sA, sB, sC, i64_w, i32_w]
    rfl
   refine take_ (i := 4) (N := some 12) (v := ?_) (a' := ?_) (bm 255 15) rfl rfl (by kernel_rfl) (fun _ _ _ h => h) (Or.inl ⟨by rfl, ?_⟩) hHeld ?_ ?_
   rotate_left
   ·rintro w' ⟨s0, s1⟩
    go_simp
    with_reducible rfl
   rotate_left
   ·simp only [Act.put, sA, sB, sC, i64_w, i32_w]
    rfl
   refine take_ (i := 8) (N := some 16) (v := ?_) (a' := ?_) (bm 511 15) rfl rfl (by kernel_rfl) (fun _ _ _ h => h) (Or.inl ⟨by rfl, ?_⟩) hHeld ?_ ?_
   rotate_left
   ·rintro w' ⟨s0, s1⟩
    go_simp
    with_reducible rfl
   rotate_left
   ·simp only [Act.put, sA, sB, sC, i64_w, i32_w]
    rfl
   refine pure_ (i := 9) (N := some 17) (v := ?_) (a' := ?_) (bm 1023 15) rfl rfl (by kernel_rfl) (fun _ _ _ h => h) (Or.inl ⟨by rfl, ?_⟩) ?_ ?_
   rotate_left
   ·intro w'
    go_simp
    with_reducible rfl
   rotate_left
   ·simp only [Act.put, sA, sB, sC, i64_w, i32_w]
    rfl
   refine one_ (i := 10) (N := some 18) (bm 2047 15) rfl rfl (by kernel_rfl) (by decide) (fun K hK => ?_)
   refine value_ (w1 := ?_) (v := ?_) (by rfl) rfl ?_ ?_
   rotate_left 2
   ·go_simp
    constructor
    ·rfl
    ·rfl
   refine hK.out _ _ ⟨((blk_cell (blk_alloc HD.out.blk _) 0).trans rfl), ((blk_cell (blk_alloc HD.out.blk _) 1).trans rfl)⟩ (fun hHeld => ?_)
   clear hK K
   refine norm_ (a' := ?_) ?_ ?_
   rotate_left
   ·show Act.put _ (some 18) _ = _
    simp only [Act.put, sA, sB, sC, i64_w, i32_w]
    rfl
   refine one_ (i := 11) (N := some 19) (bm 4095 15) rfl rfl (by kernel_rfl) (by decide) (fun K hK => ?_)
   refine Kd.N_append_step k70 (w0 := w0) w0.heap.size (by rfl) (.tmp 12) (.tmp 18) 64 70 (.agg #[.int .i64 0, .int .i64 0, .slice none 0 0, .slice none 0 0]) 64 rfl Try.underlying64 info70 rfl (by decide) (by decide) _ out ⟨1, 0, [], add⟩ [.int .i64 1, .int .i64 0, .slice none 0 0, .slice BI add.length dI] (fun k => ok k ∧ k ≠ g) (fun k => (ok k ∧ k ≠ g) ∧ some k ≠ (Value.slice AI out.length cI).ownBlock) (by rfl) (by rfl) (k70_mkF _ _ ⟨1, 0, [], add⟩ (Nat.le_refl 0) (Kd.F_nil _ _ _) (Kd.N_reads' HD.out.radd).2.1 (Kd.N_F HD.out.radd)) (fun _ hk => hk) (fun k hk => ⟨HO.out k (Nat.le_trans HDO.out.mv.size hk), fun e => by have := blk_lt HDO.out.blk; omega⟩) HDO.out.row HDO.out.bel HDO.out.bel.size (by have := HL.out; omega) ?_
   intro v1 w1 hR1 hB1 hg hat
   obtain ⟨A1, n1, rfl⟩ := Kd.N_slice hR1
   obtain ⟨hb1, hW⟩ := HDO.out.app hR1 hB1 hg hat
   have HW := Aside0.mk hW
   have hd0 : w1.cell? ⟨g, 0, none⟩ = _ := (blk_cell hb1 0).trans rfl
   have hd1 : w1.cell? ⟨g, 1, none⟩ = some (.slice BI add.length dI) := (blk_cell hb1 1).trans rfl
   have hd2 : w1.cell? ⟨g, 2, none⟩ = some (.int .i64 cut) := (blk_cell hb1 2).trans rfl
   have hdf := blk_frozen hb1 0
   clear hR1 hB1 hg hat hb1 hW
   refine hK.out _ _ ⟨hd0, hd1⟩ (fun hHeld => ?_)
   clear hK K
   refine norm_ (a' := ?_) ?_ ?_
   rotate_left
   ·show Act.put _ (some 19) _ = _
    simp only [Act.put, sA, sB, sC, i64_w, i32_w]
    rfl
   refine pure_ (i := 12) (N := some 20) (v := ?_) (a' := ?_) (bm 8191 15) rfl rfl (by kernel_rfl) (fun _ _ _ h => h) (Or.inl ⟨by rfl, ?_⟩) ?_ ?_
   rotate_left
   ·intro w'
    go_simp
    with_reducible rfl
   rotate_left
   ·simp only [Act.put, sA, sB, sC, i64_w, i32_w]
    rfl
   refine pure_ (i := 13) (N := some 21) (v := ?_) (a' := ?_) (bm 16383 15) rfl rfl (by kernel_rfl) (fun _ _ _ h => h) (Or.inl ⟨by rfl, ?_⟩) ?_ ?_
   rotate_left
   ·intro w'
    go_simp
    with_reducible rfl
   rotate_left
   ·simp only [Act.put, sA, sB, sC, i64_w, i32_w]
    rfl
   refine last_ (i := 14) (N := none) (bm 32767 15) rfl rfl (by kernel_rfl) (by decide) (fun K hK => ?_)
   refine skip_ (w1 := ?_) (by rfl) rfl ?_ ?_
   rotate_left
   ·go_simp
    rfl
   refine hK.out _ _ ?_
   clear hK K
   refine done_ (by kernel_rfl) ?_
   go_wp2
   go_meet
   case rel => exact ⟨A1, n1, ⟨by rw [HE.out]; simpa using HW.out⟩⟩
 case rest =>
  clear hta hta2 hc0 hc1 hc2
  obtain ⟨A2, n2, HS2⟩ := hcut
  obtain ⟨l2, hl2⟩ : ∃ l : List S70, l = addD out add := ⟨_, rfl⟩
  have hlen : l2.length ≤ out.length + 1 := by rw [hl2]; unfold addD; split <;> simp
  have HLEN := Aside0.mk hlen
  rw [← hl2] at HS2
  have HL2 := Aside0.mk hl2
  clear hl2 hlen
  obtain ⟨tb, htb⟩ : ∃ t : Bool, decide (0 < cut) = t := ⟨_, rfl⟩
  have hc0 : wc.cell? ⟨g, 0, none⟩ = some (.slice A2 l2.length n2) := (blk_cell HS2.out.blk 0).trans rfl
  have hc1 : wc.cell? ⟨g, 1, none⟩ = some (.slice BI add.length dI) := (blk_cell HS2.out.blk 1).trans rfl
  have hc2 : wc.cell? ⟨g, 2, none⟩ = some (.int .i64 cut) := (blk_cell HS2.out.blk 2).trans rfl
  go_upto_if 26 with (fail)
  go_cut [] (fun we => ∃ (A1 : Option Addr) (n1 : Nat), Aside0 (WrO ok w0 w g (.slice AI out.length cI) (.slice BI add.length dI) (cutD l2 cut) cut (.slice A1 (cutD l2 cut).length n1) (.slice BI add.length dI) we))
  case first =>
   cases tb with
   | false =>
    have hadd := of_decide_eq_false htb
    have e : cutD l2 cut = l2 := if_neg hadd
    go_wp2
    go_meet
    case rel => exact ⟨A2, n2, ⟨by rw [e]; exact HS2.out⟩⟩
   | true =>
    have hadd := of_decide_eq_true htb
    have e : cutD l2 cut = l2 ++ [⟨2, cut, [], []⟩] := if_pos hadd
    have HE := Aside0.mk e
    clear hadd e
    have HDO := Aside0.mk HS2.out.drew
    go_upto_region 3 with (fail)
    refine start_ (n := 15) (S := fun w' => w'.cell? ⟨g, 0, none⟩ = some (.slice A2 l2.length n2) ∧ w'.cell? ⟨g, 2, none⟩ = some (.int .i64 cut)) (ds := [14]) #[false, false, false, false, false, false, false, false, false, false, false, false, false, false, false] (by kernel_rfl) rfl rfl ⟨((blk_cell HDO.out.blk 0).trans rfl), ((blk_cell HDO.out.blk 2).trans rfl)⟩ (fun hHeld => ?_)
    refine pure_ (i := 0) (N := some 27) (v := ?_) (a' := ?_) (bm 1 15) rfl rfl (by kernel_rfl) (fun _ _ _ h => h) (Or.inl ⟨by rfl, ?_⟩) ?_ ?_
    rotate_left
    ·intro w'
     go_simp
     with_reducible rfl
    rotate_left
    ·simp only [Act.put, sA, sB, sC, i64_w, i32_w]
     rfl
    refine pure_ (i := 1) (N := some 28) (v := ?_) (a' := ?_) (bm 3 15) rfl rfl (by kernel_rfl) (fun _ _ _ h => h) (Or.inl ⟨by rfl, ?_⟩) ?_ ?_
    rotate_left
    ·intro w'
     go_simp
     with_reducible rfl
    rotate_left
    ·simp only [Act.put, sA, sB, sC, i64_w, i32_w]
     rfl
    refine pure_ (i := 2) (N := some 29) (v := ?_) (a' := ?_) (bm 7 15) rfl rfl (by kernel_rfl) (fun _ _ _ h => h) (Or.inl ⟨by rfl, ?_⟩) ?_ ?_
    rotate_left
    ·intro w'
     go_simp
     with_reducible rfl
    rotate_left
    ·simp only [Act.put, sA, sB, sC, i64_w, i32_w]
     rfl
    refine pure_ (i := 3) (N := some 30) (v := ?_) (a' := ?_) (bm 15 15) rfl rfl (by kernel_rfl) (fun _ _ _ h => h) (Or.inl ⟨by rfl, ?_⟩) ?_ ?_
    rotate_left
    ·intro w'
     go_simp
     with_reducible rfl
    rotate_left
    ·simp only [Act.put, sA, sB, sC, i64_w, i32_w]
     rfl
    refine pure_ (i := 5) (N := some 32) (v := ?_) (a' := ?_) (bm 47 15) rfl rfl (by kernel_rfl) (fun _ _ _ h => h) (Or.inl ⟨by rfl, ?_⟩) ?_ ?_
    rotate_left
    ·intro w'
     go_simp
     with_reducible rfl
    rotate_left
    ·simp only [Act.put, sA, sB, sC, i64_w, i32_w]
     rfl
    refine pure_ (i := 6) (N := some 33) (v := ?_) (a' := ?_) (bm 111 15) rfl rfl (by kernel_rfl) (fun _ _ _ h => h) (Or.inl ⟨by rfl, ?_⟩) ?_ ?_
    rotate_left
    ·intro w'
     go_simp
     with_reducible rfl
    rotate_left
    ·simp only [Act.put, sA, sB, sC, i64_w, i32_w]
     rfl
    refine pure_ (i := 7) (N := some 34) (v := ?_) (a' := ?_) (bm 239 15) rfl rfl (by kernel_rfl) (fun _ _ _ h => h) (Or.inl ⟨by rfl, ?_⟩) ?_ ?_
    rotate_left
    ·intro w'
     go_simp
     with_reducible rfl
    rotate_left
    ·simp only [Act.put, sA, sB, sC, i64_w, i32_w]
     rfl
    refine take_ (i := 4) (N := some 31) (v := ?_) (a' := ?_) (bm 255 15) rfl rfl (by kernel_rfl) (fun _ _ _ h => h) (Or.inl ⟨by rfl, ?_⟩) hHeld ?_ ?_
    rotate_left
    ·rintro w' ⟨s0, s1⟩
     go_simp
     with_reducible rfl
    rotate_left
    ·simp only [Act.put, sA, sB, sC, i64_w, i32_w]
     rfl
    refine take_ (i := 8) (N := some 35) (v := ?_) (a' := ?_) (bm 511 15) rfl rfl (by kernel_rfl) (fun _ _ _ h => h) (Or.inl ⟨by rfl, ?_⟩) hHeld ?_ ?_
    rotate_left
    ·rintro w' ⟨s0, s1⟩
     go_simp
     with_reducible rfl
    rotate_left
    ·simp only [Act.put, sA, sB, sC, i64_w, i32_w]
     rfl
    refine pure_ (i := 9) (N := some 36) (v := ?_) (a' := ?_) (bm 1023 15) rfl rfl (by kernel_rfl) (fun _ _ _ h => h) (Or.inl ⟨by rfl, ?_⟩) ?_ ?_
    rotate_left
    ·intro w'
     go_simp
     with_reducible rfl
    rotate_left
    ·simp only [Act.put, sA, sB, sC, i64_w, i32_w]
     rfl
    refine one_ (i := 10) (N := some 37) (bm 2047 15) rfl rfl (by kernel_rfl) (by decide) (fun K hK => ?_)
    refine value_ (w1 := ?_) (v := ?_) (by rfl) rfl ?_ ?_
    rotate_left 2
    ·go_simp
     constructor
     ·rfl
     ·rfl
    refine hK.out _ _ ⟨((blk_cell (blk_alloc HDO.out.blk _) 0).trans rfl), ((blk_cell (blk_alloc HDO.out.blk _) 2).trans rfl)⟩ (fun hHeld => ?_)
    clear hK K
    refine norm_ (a' := ?_) ?_ ?_
    rotate_left
    ·show Act.put _ (some 37) _ = _
     simp only [Act.put, sA, sB, sC, i64_w, i32_w]
     rfl
    refine one_ (i := 11) (N := some 38) (bm 4095 15) rfl rfl (by kernel_rfl) (by decide) (fun K hK => ?_)
    refine Kd.N_append_step k70 (w0 := w0) w0.heap.size (by rfl) (.tmp 31) (.tmp 37) 64 70 (.agg #[.int .i64 0, .int .i64 0, .slice none 0 0, .slice none 0 0]) 64 rfl Try.underlying64 info70 rfl (by decide) (by decide) _ l2 ⟨2, cut, [], []⟩ [.int .i64 2, .int .i64 cut, .slice none 0 0, .slice none 0 0] (fun k => ok k ∧ k ≠ g) (fun _ => False) (by rfl) (by rfl) (k70_mkF _ _ ⟨2, cut, [], []⟩ (Nat.le_refl 0) (Kd.F_nil _ _ _) (Nat.le_refl 0) (Kd.F_nil _ _ _)) (fun _ h => h.elim) (fun k hk => ⟨HO.out k (Nat.le_trans HDO.out.mv.size hk), fun e => by have := blk_lt HDO.out.blk; omega⟩) HDO.out.row HDO.out.bel HDO.out.bel.size (by have := HL.out; have := HLEN.out; omega) ?_
    intro v1 w1 hR1 hB1 hg hat
    obtain ⟨A1, n1, rfl⟩ := Kd.N_slice hR1
    obtain ⟨hb1, hW⟩ := HDO.out.app hR1 hB1 hg hat
    have HW := Aside0.mk hW
    have hd0 : w1.cell? ⟨g, 0, none⟩ = _ := (blk_cell hb1 0).trans rfl
    have hd1 : w1.cell? ⟨g, 1, none⟩ = some (.slice BI add.length dI) := (blk_cell hb1 1).trans rfl
    have hd2 : w1.cell? ⟨g, 2, none⟩ = some (.int .i64 cut) := (blk_cell hb1 2).trans rfl
    have hdf := blk_frozen hb1 0
    clear hR1 hB1 hg hat hb1 hW
    refine hK.out _ _ ⟨hd0, hd2⟩ (fun hHeld => ?_)
    clear hK K
    refine norm_ (a' := ?_) ?_ ?_
    rotate_left
    ·show Act.put _ (some 38) _ = _
     simp only [Act.put, sA, sB, sC, i64_w, i32_w]
     rfl
    refine pure_ (i := 12) (N := some 39) (v := ?_) (a' := ?_) (bm 8191 15) rfl rfl (by kernel_rfl) (fun _ _ _ h => h) (Or.inl ⟨by rfl, ?_⟩) ?_ ?_
    rotate_left
    ·intro w'
     go_simp
     with_reducible rfl
    rotate_left
    ·simp only [Act.put, sA, sB, sC, i64_w, i32_w]
     rfl
    refine pure_ (i := 13) (N := some 40) (v := ?_) (a' := ?_) (bm 16383 15) rfl rfl (by kernel_rfl) (fun _ _ _ h => h) (Or.inl ⟨by rfl, ?_⟩) ?_ ?_
    rotate_left
    ·intro w'
     go_simp
     with_reducible rfl
    rotate_left
    ·simp only [Act.put, sA, sB, sC, i64_w, i32_w]
     rfl
    refine last_ (i := 14) (N := none) (bm 32767 15) rfl rfl (by kernel_rfl) (by decide) (fun K hK => ?_)
    refine skip_ (w1 := ?_) (by rfl) rfl ?_ ?_
    rotate_left
    ·go_simp
     rfl
    refine hK.out _ _ ?_
    clear hK K
    refine done_ (by kernel_rfl) ?_
    go_wp2
    go_meet
    case rel => exact ⟨A1, n1, ⟨by rw [HE.out]; simpa using HW.out⟩⟩
  case rest =>
   clear htb hc0 hc1 hc2
   obtain ⟨A3, n3, HS3⟩ := hcut
   have HS4 := Aside0.mk HS3.out.clear
   have hc1 := (blk_cell HS3.out.blk 1).trans rfl
   have hc2 := (blk_cell HS3.out.blk 2).trans rfl
   have hf1 := blk_frozen HS3.out.blk 1
   have hf2 := blk_frozen HS3.out.blk 2
   go_wp2
   go_end0
   exact ⟨rfl, _, by unfold flushD; rw [← HL2.out]; exact HS4.out⟩
section
variable {ok : Nat → Prop} {w0 wI w w1 : World} {g : Nat} {vI uI v u v1 u1 : Value} {out out' : List S70} {add add' : List S84} {cut : Int}
theorem mv_below (h : Moves2 wI w g vI uI v u) (hb : Below w.heap.size w w1) : Moves2 wI w1 g vI uI v u :=
 ⟨Nat.le_trans h.size hb.size, fun k hk hgk hv hu => by rw [hb.block k (Nat.lt_of_lt_of_le hk h.size), h.frame k hk hgk hv hu], h.ownv, h.ownu⟩
theorem WrD.below (h : WrD ok w0 wI g vI uI out add cut v u w) (hb : Below w.heap.size w w1) : WrD ok w0 wI g vI uI out add cut v u w1 :=
 ⟨h.ge, (hb.block _ (blk_lt h.blk)).trans h.blk, Kd.N_below h.row hb, Kd.N_below h.radd hb, below_step h.bel hb, mv_below h.mv hb⟩
theorem WrD.here (h : WrD ok w0 wI g vI uI out add cut v u w) : WrD ok w0 w g v u out add cut v u w := ⟨h.ge, h.blk, h.row, h.radd, h.bel, Moves2.refl _ _ _ _⟩
theorem mv_appu (h : Moves2 wI w g vI uI v u) (hg : w.grownBy w1 u.ownBlock) (hat : u1.ownBlock = u.ownBlock ∨ ∃ b, u1.ownBlock = some b ∧ w.heap.size ≤ b) : Moves2 wI w1 g vI uI v u1 := by
 refine ⟨Nat.le_trans h.size hg.size, fun k hk hgk hv hu => ?_, h.ownv, ?_⟩
 ·rw [hg.block k (Nat.lt_of_lt_of_le hk h.size) ?_, h.frame k hk hgk hv hu]
  rcases h.ownu with e | e | ⟨b, e, hb⟩
  ·rw [e]; exact hu
  ·rw [e]; simp
  ·rw [e]; intro h'; injection h' with h'; omega
 ·rcases hat with e | ⟨b, e, hb⟩
  ·rw [e]; exact h.ownu
  ·exact .inr (.inr ⟨b, e, Nat.le_trans h.size hb⟩)
theorem WrD.appu (h : WrD ok w0 wI g vI uI out add cut v u w) (hR : Kd.N k84 84 w1 w0.heap.size (fun k => (ok k ∧ k ≠ g) ∧ some k ≠ v.ownBlock) u1 add') (hB : Below w0.heap.size w0 w1) (hg : w.grownBy w1 u.ownBlock)
  (hat : u1.ownBlock = u.ownBlock ∨ ∃ b, u1.ownBlock = some b ∧ w.heap.size ≤ b) :
  w1.heap[g]? = some (.cells #[v, u, .int .i64 cut] 127 (0, 0)) ∧ WrD ok w0 wI g vI uI out add' cut v u1 (w1.setCell ⟨g, 1, none⟩ u1) := by
 have hb := blk_grown h.blk hg (Kd.N_away h.radd (fun _ hk => hk.1.2))
 exact ⟨hb, h.ge, blk_put hb 1 u1 rfl, Kd.N_far (Kd.N_afterv h.row hg hat) (fun _ hk => hk.1.2) u1, Kd.N_far hR (fun _ hk => hk.1.2) u1, below_set hB h.ge, mv_set (mv_appu h.mv hg hat) 1 u1⟩
theorem WrD.fresh (h : WrD ok w0 wI g vI uI out add cut v u w) (hok : ∀ k, wI.heap.size ≤ k → ok k) (k : Nat) (hk : w.heap.size ≤ k) : ((ok k ∧ k ≠ g) ∧ some k ≠ v.ownBlock) ∧ some k ≠ u.ownBlock := by
 have hg := blk_lt h.blk
 refine ⟨⟨⟨hok k (Nat.le_trans h.mv.size hk), fun e => by omega⟩, fun e => ?_⟩, fun e => ?_⟩
 ·have := Kd.N_lt h.row k e.symm; omega
 ·have := Kd.N_lt h.radd k e.symm; omega
theorem WrD.put2 (h : WrD ok w0 wI g vI uI out add cut v u w) (x : Int) : WrD ok w0 wI g vI uI out add x v u (w.setCell ⟨g, 2, none⟩ (.int .i64 x)) :=
 ⟨h.ge, blk_put h.blk 2 _ rfl, Kd.N_far h.row (fun _ hk => hk.1.2) _, Kd.N_far h.radd (fun _ hk => hk.1.2) _, below_set h.bel h.ge, mv_set h.mv 2 _⟩
end
set_option maxRecDepth 100000 in
set_option maxHeartbeats 8000000 in
theorem elems_calls (ok : Nat → Prop) (w0 : World) (g : Nat) (out : List S70) (add : List S84) (cut : Int) (vI uI : Value) (w : World) (k : Nat) (A : Option Addr) (c : Nat) (l r : List S84) (h : WrD ok w0 w g vI uI out add cut vI uI w) (hok : ∀ k, w.heap.size ≤ k → ok k)
  (hr : Kd.C k84 w A l.length l) (hc : l.length ≤ c) (hf : flow_Copy.f k l = some r) (hl : (add.length + r.length) * 40 ≤ 140737488355328) :
  Calls Try.prog 87 #[.pointer (some ⟨g, 0, none⟩), .slice A l.length c] w fun e w' => e = .returned (.tuple #[]) ∧ ∃ u, WrD ok w0 w g vI uI out (add ++ r) cut vI u w' := by
 have hu84 := Try.underlying84
 have hu127 := Try.underlying127
 obtain ⟨BI, dI, huI⟩ := Kd.N_slice h.radd
 subst huI
 have HS := Aside0.mk h
 have HD := Aside0.mk h.drew
 have HO := Aside0.mk hok
 have HL := Aside0.mk hl
 have HR := Aside0.mk (Kd.C_below hr (below_drew1 (Below.refl _ _)))
 have HC := Aside0.mk hc
 have HF := Aside0.mk hf
 clear h hok hl hr hc hf
 have hc1 : w.cell? ⟨g, 1, none⟩ = some (.slice BI add.length dI) := (blk_cell HS.out.blk 1).trans rfl
 go_enter Try.func87, Try.ntmps87
 go_upto_region 0 with (fail)
 refine start_ (n := 11) (S := fun w' => w'.cell? ⟨g, 1, none⟩ = some (.slice BI add.length dI)) (ds := [10]) #[false, false, false, false, false, false, false, false, false, false, false] (by kernel_rfl) rfl rfl (((blk_cell HD.out.blk 1).trans rfl)) (fun hHeld => ?_)
 refine pure_ (i := 0) (N := some 4) (v := ?_) (a' := ?_) (bm 1 11) rfl rfl (by kernel_rfl) (fun _ _ _ h => h) (Or.inl ⟨by rfl, ?_⟩) ?_ ?_
 rotate_left
 ·intro w'
  go_simp
  with_reducible rfl
 rotate_left
 ·simp only [Act.put, sA, sB, sC, i64_w, i32_w]
  rfl
 refine pure_ (i := 1) (N := some 5) (v := ?_) (a' := ?_) (bm 3 11) rfl rfl (by kernel_rfl) (fun _ _ _ h => h) (Or.inl ⟨by rfl, ?_⟩) ?_ ?_
 rotate_left
 ·intro w'
  go_simp
  with_reducible rfl
 rotate_left
 ·simp only [Act.put, sA, sB, sC, i64_w, i32_w]
  rfl
 refine pure_ (i := 2) (N := some 6) (v := ?_) (a' := ?_) (bm 7 11) rfl rfl (by kernel_rfl) (fun _ _ _ h => h) (Or.inl ⟨by rfl, ?_⟩) ?_ ?_
 rotate_left
 ·intro w'
  go_simp
  with_reducible rfl
 rotate_left
 ·simp only [Act.put, sA, sB, sC, i64_w, i32_w]
  rfl
 refine pure_ (i := 3) (N := some 7) (v := ?_) (a' := ?_) (bm 15 11) rfl rfl (by kernel_rfl) (fun _ _ _ h => h) (Or.inl ⟨by rfl, ?_⟩) ?_ ?_
 rotate_left
 ·intro w'
  go_simp
  with_reducible rfl
 rotate_left
 ·simp only [Act.put, sA, sB, sC, i64_w, i32_w]
  rfl
 refine pure_ (i := 5) (N := some 9) (v := ?_) (a' := ?_) (bm 47 11) rfl rfl (by kernel_rfl) (fun _ _ _ h => h) (Or.inl ⟨by rfl, ?_⟩) ?_ ?_
 rotate_left
 ·intro w'
  go_simp
  with_reducible rfl
 rotate_left
 ·simp only [Act.put, sA, sB, sC, i64_w, i32_w]
  rfl
 refine take_ (i := 4) (N := some 8) (v := ?_) (a' := ?_) (bm 63 11) rfl rfl (by kernel_rfl) (fun _ _ _ h => h) (Or.inl ⟨by rfl, ?_⟩) hHeld ?_ ?_
 rotate_left
 ·intro w' s0
  go_simp
  with_reducible rfl
 rotate_left
 ·simp only [Act.put, sA, sB, sC, i64_w, i32_w]
  rfl
 refine one_ (i := 6) (N := some 10) (bm 127 11) rfl rfl (by kernel_rfl) (by decide) (fun K hK => ?_)
 refine goes_ Try.func112 (by kernel_rfl) rfl #[.slice A l.length c] (by rfl) rfl rfl (by simp only [List.map_toArray, List.map_cons, List.map_nil]; rfl) ?_
 with_reducible refine (flow_Copy.calls k A c l r _ HR.out HC.out HF.out).mono ?_
 rintro e w3 ⟨v3, rfl, hN3, hb3⟩
 refine ⟨_, rfl, ?_⟩
 obtain ⟨A3, n3, rfl⟩ := Kd.N_slice hN3
 have HD3 := Aside0.mk (HD.out.below hb3)
 have HN3 := Aside0.mk hN3
 clear hN3 hb3
 refine hK.out _ _ (((blk_cell HD3.out.blk 1).trans rfl)) (fun hHeld => ?_)
 clear hK K
 refine norm_ (a' := ?_) ?_ ?_
 rotate_left
 ·show Act.put _ (some 10) _ = _
  simp only [Act.put, sA, sB, sC, i64_w, i32_w]
  rfl
 refine one_ (i := 7) (N := some 11) (bm 255 11) rfl rfl (by kernel_rfl) (by decide) (fun K hK => ?_)
 refine Kd.N_append_rows_step k84 (w0 := w0) w0.heap.size (by rfl) (.tmp 8) (.tmp 10) 63 84 (.agg #[.int .i64 0, .int .i64 0, .slice none 0 0]) 40 rfl Try.underlying63 info84 rfl (by decide) (by decide) _ add r _ _ _ (fun k => (ok k ∧ k ≠ g) ∧ some k ≠ vI.ownBlock) (fun k => w.drew.heap.size ≤ k) (by rfl) (by rfl) HD3.out.radd (Kd.N_F HN3.out) (fun k hk => HD.out.fresh HO.out k hk) (fun k hk => (HD3.out.fresh HO.out k hk).1) HD3.out.bel HD3.out.bel.size (by have := HL.out; omega) ?_
 intro u1 w1 hR1 hB1 hg hat
 obtain ⟨A1, n1, rfl⟩ := Kd.N_slice hR1
 obtain ⟨hb1, hW⟩ := HD3.out.appu hR1 hB1 hg hat
 have HW := Aside0.mk hW
 have hd1 : w1.cell? ⟨g, 1, none⟩ = some (.slice BI add.length dI) := (blk_cell hb1 1).trans rfl
 have hdf := blk_frozen hb1 1
 clear hR1 hB1 hg hat hb1 hW
 refine hK.out _ _ (hd1) (fun hHeld => ?_)
 clear hK K
 refine norm_ (a' := ?_) ?_ ?_
 rotate_left
 ·show Act.put _ (some 11) _ = _
  simp only [Act.put, sA, sB, sC, i64_w, i32_w]
  rfl
 refine pure_ (i := 8) (N := some 12) (v := ?_) (a' := ?_) (bm 511 11) rfl rfl (by kernel_rfl) (fun _ _ _ h => h) (Or.inl ⟨by rfl, ?_⟩) ?_ ?_
 rotate_left
 ·intro w'
  go_simp
  with_reducible rfl
 rotate_left
 ·simp only [Act.put, sA, sB, sC, i64_w, i32_w]
  rfl
 refine pure_ (i := 9) (N := some 13) (v := ?_) (a' := ?_) (bm 1023 11) rfl rfl (by kernel_rfl) (fun _ _ _ h => h) (Or.inl ⟨by rfl, ?_⟩) ?_ ?_
 rotate_left
 ·intro w'
  go_simp
  with_reducible rfl
 rotate_left
 ·simp only [Act.put, sA, sB, sC, i64_w, i32_w]
  rfl
 refine last_ (i := 10) (N := none) (bm 2047 11) rfl rfl (by kernel_rfl) (by decide) (fun K hK => ?_)
 refine skip_ (w1 := ?_) (by rfl) rfl ?_ ?_
 rotate_left
 ·go_simp
  rfl
 refine hK.out _ _ ?_
 clear hK K
 refine done_ (by kernel_rfl) ?_
 go_wp2
 go_end0
 exact ⟨rfl, _, by have := HW.out; rw [List.length_append] at this; exact this⟩
theorem flushD_len (out : List S70) (add : List S84) (c : Int) : out.length ≤ (flushD out add c).length ∧ (flushD out add c).length ≤ out.length + 2 := by
 unfold flushD addD cutD
 repeat (first | split | simp)
def keepB (k : Nat) (o : List S70) (attrs : List S38) : Option Bool :=
 if 0 < o.length then (if (rd_T70 o ((o.length : Int) - 1)).f0 = 0 then attr_Same.f k (rd_T70 o ((o.length : Int) - 1)).f2 attrs else some false) else some false
def keepO (o : List S70) (n : Int) (attrs : List S38) : Bool → List S70
 | true => o.set (o.length - 1) ⟨(rd_T70 o ((o.length : Int) - 1)).f0, wrap64 ((rd_T70 o ((o.length : Int) - 1)).f1 + n), (rd_T70 o ((o.length : Int) - 1)).f2, (rd_T70 o ((o.length : Int) - 1)).f3⟩
 | false => o ++ [⟨0, n, attrs, []⟩]
theorem wrd_seg {ok : Nat → Prop} {w0 wI w : World} {g go n cap j : Nat} {vI uI u : Value} {o o' : List S70} {a : List S84} {c : Int} {x : Value} (h : WrD ok w0 wI g vI uI o a c (.slice (some ⟨go, 0, none⟩) n cap) u w) (hne : go ≠ g) (hgo : w0.heap.size ≤ go)
  (hR : Kd.N k70 70 (w.setCell ⟨go, j, none⟩ x) w0.heap.size (fun k => (ok k ∧ k ≠ g) ∧ some k ≠ u.ownBlock) (.slice (some ⟨go, 0, none⟩) n cap) o') : WrD ok w0 wI g vI uI o' a c (.slice (some ⟨go, 0, none⟩) n cap) u (w.setCell ⟨go, j, none⟩ x) := by
 refine ⟨h.ge, blk_far h.blk (fun e => hne e.symm) _, hR, Kd.N_far h.radd (fun k hk e => hk.2 (by rw [show k = go from e]; rfl)) _, below_set h.bel hgo, ⟨by have := h.mv.size; simp [World.setCell]; omega, fun k hk hgk hv hu => ?_, h.mv.ownv, h.mv.ownu⟩⟩
 have hk' : k ≠ go := by
  rcases h.mv.ownv with e | ⟨b, e, hb⟩
  ·intro e2
   apply hv
   rw [← e, e2]
   rfl
  ·have : go = b := by simpa [Value.ownBlock] using e
   omega
 rw [Below.heap_setCell _ _ _ _ hk', h.mv.frame k hk hgk hv hu]
theorem WrD.appv {ok : Nat → Prop} {w0 wI w w1 : World} {g : Nat} {vI uI v v1 : Value} {out out' : List S70} {cut : Int} (h : WrD ok w0 wI g vI uI out [] cut v (.slice none 0 0) w) (hR : Kd.N k70 70 w1 w0.heap.size (fun k => (ok k ∧ k ≠ g) ∧ some k ≠ (Value.slice none 0 0).ownBlock) v1 out') (hB : Below w0.heap.size w0 w1) (hg : w.grownBy w1 v.ownBlock)
  (hat : v1.ownBlock = v.ownBlock ∨ ∃ b, v1.ownBlock = some b ∧ w.heap.size ≤ b) :
  w1.heap[g]? = some (.cells #[v, .slice none 0 0, .int .i64 cut] 127 (0, 0)) ∧ WrD ok w0 wI g vI uI out' [] cut v1 (.slice none 0 0) (w1.setCell ⟨g, 0, none⟩ v1) := by
 have hb := blk_grown h.blk hg (Kd.N_away h.row (fun _ hk => hk.1.2))
 exact ⟨hb, h.ge, blk_put hb 0 v1 rfl, Kd.N_far hR (fun _ hk => hk.1.2) v1, Kd.N_nil _ _ _ _ _, below_set hB h.ge, mv_set (mv_app h.mv hg hat) 0 v1⟩
theorem n38_tight {e : Nat} {w : World} {base : Nat} {ok ok' : Nat → Prop} {v : Value} {xs : List S38} (h : Kd.N k38 e w base ok v xs) (hok : ∀ k, v.ownBlock = some k → ok' k) : Kd.N k38 e w base ok' v xs := by
 obtain ⟨_, rows, hl, hR, hf⟩ := h
 refine ⟨hok, rows, hl, hR, fun j x c hx hc => ?_⟩
 obtain rfl := k38_open (Kd.FK_now (hf j x c hx hc))
 exact k38_mkF _ _ _
def Off (g : Nat) (v u : Value) (k : Nat) : Prop := (k ≠ g ∧ some k ≠ v.ownBlock) ∧ some k ≠ u.ownBlock
theorem off_move {wI w : World} {g : Nat} {vI uI v u : Value} {A : Option Addr} {n : Nat} {xs : List S38} (m : Moves2 wI w g vI uI v u) (h : Kd.F k38 wI (Off g vI uI) A n xs) : Kd.F k38 w (Off g v u) A n xs := by
 refine Kd.F_mono (Kd.F_step (Kd.F_bound h) (fun k hk hlt => m.frame k hlt hk.1.1.1 hk.1.1.2 hk.1.2)) (fun k hk => ⟨⟨hk.1.1.1, ?_⟩, ?_⟩)
 ·rcases m.ownv with e | ⟨b, e, hb⟩
  ·rw [e]; exact hk.1.1.2
  ·rw [e]; intro h'; injection h' with h'; have := hk.2; omega
 ·rcases m.ownu with e | e | ⟨b, e, hb⟩
  ·rw [e]; exact hk.1.2
  ·rw [e]; simp
  ·rw [e]; intro h'; injection h' with h'; have := hk.2; omega
set_option maxRecDepth 100000 in
set_option maxHeartbeats 4000000 in
theorem keep_zero (ok : Nat → Prop) (w0 : World) (g : Nat) (out : List S70) (add : List S84) (cut : Int) (vI uI : Value) (w : World) (A : Option Addr) (c : Nat) (attrs : List S38) (h : WrD ok w0 w g vI uI out add cut vI uI w) :
  Calls Try.prog 86 #[.pointer (some ⟨g, 0, none⟩), .int .i64 0, .slice A attrs.length c] w fun e w' => e = .returned (.tuple #[]) ∧ WrD ok w0 w g vI uI out add cut vI uI w' := by
 have HS := Aside0.mk h
 clear h
 go_enter Try.func86, Try.ntmps86
 go_wp2
 refine bodyPost_ret (results_none (by first | rfl | kernel_rfl) _ _ _) rfl ?_
 exact ⟨rfl, HS.out⟩
set_option maxRecDepth 100000 in
set_option maxHeartbeats 8000000 in
theorem keep_calls (ok : Nat → Prop) (w0 : World) (g : Nat) (out : List S70) (add : List S84) (cut n : Int) (vI uI : Value) (w : World) (k : Nat) (A : Option Addr) (c : Nat) (attrs : List S38) (b : Bool) (h : WrD ok w0 w g vI uI out add cut vI uI w) (hok : ∀ k, w.heap.size ≤ k → ok k)
  (hF : Kd.F k38 w (Off g vI uI) A attrs.length attrs) (hc : attrs.length ≤ c) (hl : (out.length + 3) * 64 ≤ 140737488355328) (hla : attrs.length * 32 ≤ 140737488355328) (hn : n ≠ 0) (hb : keepB k (flushD out add cut) attrs = some b) :
  Calls Try.prog 86 #[.pointer (some ⟨g, 0, none⟩), .int .i64 n, .slice A attrs.length c] w fun e w' => e = .returned (.tuple #[]) ∧ ∃ v, WrD ok w0 w g vI uI (keepO (flushD out add cut) n attrs b) [] 0 v (.slice none 0 0) w' := by
 have hu70 := Try.underlying70
 have hu127 := Try.underlying127
 have hu38 := Try.underlying38
 have HFL := Aside0.mk (flush_calls ok w0 g out add cut vI uI w h hok (by omega))
 have HO := Aside0.mk hok
 have HF := Aside0.mk hF
 have HC := Aside0.mk hc
 have HLA := Aside0.mk hla
 have HL := Aside0.mk (show (flushD out add cut).length ≤ 2199023255551 by have := (flushD_len out add cut).2; omega)
 have c1b : (n == 0) = false := beq_eq_false_iff_ne.mpr hn
 clear h hok hF hc hl hla hn
 obtain ⟨o, ho⟩ : ∃ o, o = flushD out add cut := ⟨_, rfl⟩
 rw [← ho] at HFL HL hb ⊢
 clear ho
 go_enter Try.func86, Try.ntmps86
 go_wp2_with (go_at_call 110; refine HFL.out.mono ?_)
 rintro e w1 ⟨rfl, v, hS⟩
 obtain ⟨A1, n1, rfl⟩ := Kd.N_slice hS.row
 have HS := Aside0.mk hS
 have HF1 := Aside0.mk (off_move hS.mv HF.out)
 have hc0 : w1.cell? ⟨g, 0, none⟩ = some (.slice A1 o.length n1) := (blk_cell HS.out.blk 0).trans rfl
 have hf0 := blk_frozen HS.out.blk 0
 have hg : g < w1.heap.size := blk_lt hS.blk
 have hlen := HL.out
 clear hS HFL HF
 have hc0 : w1.cell? ⟨g, 0, none⟩ = some (.slice A1 o.length n1) := (blk_cell HS.out.blk 0).trans rfl
 go_upto_region 3 with (fail)
 go_cut [41] (fun v41 wx => v41 = .bool b ∧ Aside0 (WrD ok w0 w g vI uI o [] 0 (.slice A1 o.length n1) (.slice none 0 0) wx) ∧ Aside0 (Kd.F k38 wx (Off g (.slice A1 o.length n1) (.slice none 0 0)) A attrs.length attrs))
 case first =>
  by_cases hz : 0 < o.length
  ·have p0 : 0 ≤ (o.length : Int) - 1 := by omega
   have q0 : (o.length : Int) - 1 < (o.length : Int) := by omega
   obtain ⟨go, co, eo, gb, gl, cells, hblk⟩ := Kd.N_form HS.out.row hz
   injection eo with ea en ec
   subst ea
   subst ec
   clear en
   obtain ⟨ce, hcl, hM, hcc, hfr⟩ := Kd.N_elem HS.out.row z70 ((o.length : Int) - 1) p0 q0
   obtain ⟨B2, m2, B3, m3, rfl, hm2, hF2, hm3, hF3⟩ := k70_openF hM
   have hix : ∀ j, (((o.length : Int) - 1).toNat * k70.sz + j) = (o.length - 1) * 4 + j := fun j => by show (((o.length : Int) - 1).toNat * 4 + j) = _; omega
   have hx0 : w1.cell? ⟨go, (o.length - 1) * 4, none⟩ = some (.int .i64 (rd_T70 o ((o.length : Int) - 1)).f0) := by
    have := hcc 0 _ rfl
    rwa [hix] at this
   have hx2 : w1.cell? ⟨go, (o.length - 1) * 4 + 2, none⟩ = some (.slice B2 (rd_T70 o ((o.length : Int) - 1)).f2.length m2) := by
    have := hcc 2 _ rfl
    rwa [hix] at this
   rw [keepB, if_pos hz] at hb
   by_cases hkp : (rd_T70 o ((o.length : Int) - 1)).f0 = 0
   ·rw [if_pos hkp] at hb
    have c4 : ((rd_T70 o ((o.length : Int) - 1)).f0 == 0) = true := beq_iff_eq.mpr hkp
    have HB := Aside0.mk hb
    have HM2 := Aside0.mk hm2
    have HF2 := Aside0.mk hF2
    clear hb hm2 hF2 hm3 hF3 hM hcc hcl gb hkp gl hblk hfr hix
    go_wp2_with (go_at_call 111; refine (attr_Same.calls k B2 m2 (rd_T70 o ((o.length : Int) - 1)).f2 A c attrs b _ (Kd.F_now HF2.out) HM2.out (Kd.F_now HF1.out) HC.out HB.out).mono ?_; rintro e w2 ⟨rfl, hd⟩; obtain ⟨nd, rfl⟩ := hd)
    go_meet
    case rel => exact ⟨by cases b <;> rfl, ⟨HS.out.drewN nd⟩, ⟨Kd.F_drewN HF1.out nd⟩⟩
   ·rw [if_neg hkp] at hb
    obtain rfl := Option.some.inj hb
    have c4 : ((rd_T70 o ((o.length : Int) - 1)).f0 == 0) = false := beq_eq_false_iff_ne.mpr hkp
    clear hb hm2 hF2 hm3 hF3 hM hcc hcl gb hkp gl hblk hfr hix
    go_wp2
    go_meet
    case rel => exact ⟨rfl, HS, HF1⟩
  ·have hnil : o = [] := List.eq_nil_of_length_eq_zero (by omega)
   subst hnil
   rw [keepB, if_neg (by decide)] at hb
   obtain rfl := Option.some.inj hb
   go_wp2
   go_meet
   case rel => exact ⟨rfl, HS, HF1⟩
 case rest =>
  clear HS HF1 hc0 hf0 hg
  obtain ⟨rfl, HS, HF1⟩ := hcut
  have hc0 : wc.cell? ⟨g, 0, none⟩ = some (.slice A1 o.length n1) := (blk_cell HS.out.blk 0).trans rfl
  have hf0 := blk_frozen HS.out.blk 0
  have hg : g < wc.heap.size := blk_lt HS.out.blk
  cases b with
  | true =>
   have hz : 0 < o.length := by
    rw [keepB] at hb
    by_cases hz : 0 < o.length
    ·exact hz
    ·rw [if_neg hz] at hb; cases hb
   clear hb
   have p0 : 0 ≤ (o.length : Int) - 1 := by omega
   have q0 : (o.length : Int) - 1 < (o.length : Int) := by omega
   obtain ⟨go, co, eo, gb, gl, cells, hblk⟩ := Kd.N_form HS.out.row hz
   injection eo with ea en ec
   subst ea
   subst ec
   clear en
   obtain ⟨ce, hcl, hM, hcc, hfr⟩ := Kd.N_elem HS.out.row z70 ((o.length : Int) - 1) p0 q0
   obtain ⟨B2, m2, B3, m3, rfl, hm2, hF2, hm3, hF3⟩ := k70_openF hM
   have hne : go ≠ g := fun e => Kd.N_away HS.out.row (fun _ hk => hk.1.2) (by rw [e]; rfl)
   have hix : ∀ j, (((o.length : Int) - 1).toNat * k70.sz + j) = (o.length - 1) * 4 + j := fun j => by show (((o.length : Int) - 1).toNat * 4 + j) = _; omega
   have hx1 : wc.cell? ⟨go, (o.length - 1) * 4 + 1, none⟩ = some (.int .i64 (rd_T70 o ((o.length : Int) - 1)).f1) := by
    have := hcc 1 _ rfl
    rwa [hix] at this
   have hfx1 : wc.frozen? ⟨go, (o.length - 1) * 4 + 1, none⟩ = false := by
    have := hfr 1
    rwa [hix] at this
   have HSEG := Aside0.mk (Kd.N_seg HS.out.row ((o.length : Int) - 1) p0 q0 (seg := [.int .i64 (wrap64 ((rd_T70 o ((o.length : Int) - 1)).f1 + n))]) (j := 1) hcl hcc (by show 2 ≤ 4; omega)
    (x' := (⟨(rd_T70 o ((o.length : Int) - 1)).f0, wrap64 ((rd_T70 o ((o.length : Int) - 1)).f1 + n), (rd_T70 o ((o.length : Int) - 1)).f2, (rd_T70 o ((o.length : Int) - 1)).f3⟩ : S70)) (k70_mkF _ _ ⟨(rd_T70 o ((o.length : Int) - 1)).f0, wrap64 ((rd_T70 o ((o.length : Int) - 1)).f1 + n), (rd_T70 o ((o.length : Int) - 1)).f2, (rd_T70 o ((o.length : Int) - 1)).f3⟩ hm2 hF2 hm3 hF3) (fun _ hk => hk))
   have HN := Aside0.mk hne
   have HGB := Aside0.mk gb
   clear hcl hM hcc hfr gb gl hblk hne hm2 hF2 hm3 hF3 hix
   go_wp2
   refine bodyPost_ret (results_none (by first | rfl | kernel_rfl) _ _ _) rfl ?_
   refine ⟨rfl, .slice (some ⟨go, 0, none⟩) o.length n1, ?_⟩
   have h2 := HSEG.out.1
   simp only [World.setCells, show k70.sz = 4 from rfl, show ((o.length : Int) - 1).toNat = o.length - 1 by omega] at h2
   exact wrd_seg HS.out HN.out HGB.out h2
  | false =>
   clear hb
   have HD := Aside0.mk HS.out.drew
   have HFD := Aside0.mk (Kd.F_drew HF1.out)
   go_upto_region 5 with (fail)
   refine start_ (n := 14) (S := fun w' => w'.cell? ⟨g, 0, none⟩ = some (.slice A1 o.length n1)) (ds := [13]) #[false, false, false, false, false, false, false, false, false, false, false, false, false, false] (by kernel_rfl) rfl rfl (((blk_cell HD.out.blk 0).trans rfl)) (fun hHeld => ?_)
   refine pure_ (i := 0) (N := some 54) (v := ?_) (a' := ?_) (bm 1 14) rfl rfl (by kernel_rfl) (fun _ _ _ h => h) (Or.inl ⟨by rfl, ?_⟩) ?_ ?_
   rotate_left
   ·intro w'
    go_simp
    with_reducible rfl
   rotate_left
   ·simp only [Act.put, sA, sB, sC, i64_w, i32_w]
    rfl
   refine pure_ (i := 1) (N := some 55) (v := ?_) (a' := ?_) (bm 3 14) rfl rfl (by kernel_rfl) (fun _ _ _ h => h) (Or.inl ⟨by rfl, ?_⟩) ?_ ?_
   rotate_left
   ·intro w'
    go_simp
    with_reducible rfl
   rotate_left
   ·simp only [Act.put, sA, sB, sC, i64_w, i32_w]
    rfl
   refine pure_ (i := 2) (N := some 56) (v := ?_) (a' := ?_) (bm 7 14) rfl rfl (by kernel_rfl) (fun _ _ _ h => h) (Or.inl ⟨by rfl, ?_⟩) ?_ ?_
   rotate_left
   ·intro w'
    go_simp
    with_reducible rfl
   rotate_left
   ·simp only [Act.put, sA, sB, sC, i64_w, i32_w]
    rfl
   refine pure_ (i := 3) (N := some 57) (v := ?_) (a' := ?_) (bm 15 14) rfl rfl (by kernel_rfl) (fun _ _ _ h => h) (Or.inl ⟨by rfl, ?_⟩) ?_ ?_
   rotate_left
   ·intro w'
    go_simp
    with_reducible rfl
   rotate_left
   ·simp only [Act.put, sA, sB, sC, i64_w, i32_w]
    rfl
   refine pure_ (i := 5) (N := some 59) (v := ?_) (a' := ?_) (bm 47 14) rfl rfl (by kernel_rfl) (fun _ _ _ h => h) (Or.inl ⟨by rfl, ?_⟩) ?_ ?_
   rotate_left
   ·intro w'
    go_simp
    with_reducible rfl
   rotate_left
   ·simp only [Act.put, sA, sB, sC, i64_w, i32_w]
    rfl
   refine pure_ (i := 6) (N := some 60) (v := ?_) (a' := ?_) (bm 111 14) rfl rfl (by kernel_rfl) (fun _ _ _ h => h) (Or.inl ⟨by rfl, ?_⟩) ?_ ?_
   rotate_left
   ·intro w'
    go_simp
    with_reducible rfl
   rotate_left
   ·simp only [Act.put, sA, sB, sC, i64_w, i32_w]
    rfl
   refine take_ (i := 4) (N := some 58) (v := ?_) (a' := ?_) (bm 127 14) rfl rfl (by kernel_rfl) (fun _ _ _ h => h) (Or.inl ⟨by rfl, ?_⟩) hHeld ?_ ?_
   rotate_left
   ·intro w' s0
    go_simp
    with_reducible rfl
   rotate_left
   ·simp only [Act.put, sA, sB, sC, i64_w, i32_w]
    rfl
   refine one_ (i := 7) (N := some 61) (bm 255 14) rfl rfl (by kernel_rfl) (by decide) (fun K hK => ?_)
   refine Kd.N_append_rows_step k38 (w0 := wc.drew) wc.drew.heap.size (by rfl) (.const (.slice none 0 0)) (.tmp 60) 32 38 (.agg #[.string ⟨#[]⟩, .string ⟨#[]⟩]) 32 rfl Try.underlying32 info38 rfl (by decide) (by decide) (.slice none 0 0) [] attrs _ _ _ (fun _ => True) (Off g (.slice A1 o.length n1) (.slice none 0 0)) (by rfl) (by rfl) (Kd.N_nil _ _ _ _ _) HFD.out (fun _ _ => ⟨trivial, by simp [Value.ownBlock]⟩) (fun _ _ => trivial) (Below.refl _ _) (Nat.le_refl _) (by have := HLA.out; simp only [List.length_nil, Nat.zero_add]; exact this) ?_
   intro v3 w3 hN3 hb3 hg3 hat3
   rw [List.nil_append] at hN3
   replace hN3 := n38_tight hN3 (ok' := fun k => wc.drew.heap.size ≤ k) (fun k hk => Kd.N_base hN3 k hk)
   obtain ⟨A3, n3, rfl⟩ := Kd.N_slice hN3
   have HD3 := Aside0.mk (HD.out.below hb3)
   have HN3 := Aside0.mk hN3
   clear hN3 hb3 hg3 hat3
   refine hK.out _ _ (((blk_cell HD3.out.blk 0).trans rfl)) (fun hHeld => ?_)
   clear hK K
   refine norm_ (a' := ?_) ?_ ?_
   rotate_left
   ·show Act.put _ (some 61) _ = _
    simp only [Act.put, sA, sB, sC, i64_w, i32_w]
    rfl
   refine pure_ (i := 8) (N := some 62) (v := ?_) (a' := ?_) (bm 511 14) rfl rfl (by kernel_rfl) (fun _ _ _ h => h) (Or.inl ⟨by rfl, ?_⟩) ?_ ?_
   rotate_left
   ·intro w'
    go_simp
    with_reducible rfl
   rotate_left
   ·simp only [Act.put, sA, sB, sC, i64_w, i32_w]
    rfl
   refine one_ (i := 9) (N := some 63) (bm 1023 14) rfl rfl (by kernel_rfl) (by decide) (fun K hK => ?_)
   refine value_ (w1 := ?_) (v := ?_) (by rfl) rfl ?_ ?_
   rotate_left 2
   ·go_simp
    constructor
    ·rfl
    ·rfl
   refine hK.out _ _ (((blk_cell (blk_alloc HD3.out.blk _) 0).trans rfl)) (fun hHeld => ?_)
   clear hK K
   refine norm_ (a' := ?_) ?_ ?_
   rotate_left
   ·show Act.put _ (some 63) _ = _
    simp only [Act.put, sA, sB, sC, i64_w, i32_w]
    rfl
   refine one_ (i := 10) (N := some 64) (bm 2047 14) rfl rfl (by kernel_rfl) (by decide) (fun K hK => ?_)
   refine Kd.N_append_step k70 (w0 := w0) w0.heap.size (by rfl) (.tmp 58) (.tmp 63) 64 70 (.agg #[.int .i64 0, .int .i64 0, .slice none 0 0, .slice none 0 0]) 64 rfl Try.underlying64 info70 rfl (by decide) (by decide) _ o ⟨0, n, attrs, []⟩ [.int .i64 0, .int .i64 n, .slice A3 attrs.length n3, .slice none 0 0] (fun k => (ok k ∧ k ≠ g) ∧ some k ≠ (Value.slice none 0 0).ownBlock) (fun k => wc.drew.heap.size ≤ k) (by rfl) (by rfl) (k70_mkF _ _ ⟨0, n, attrs, []⟩ (Kd.N_reads' HN3.out).2.1 (Kd.N_F HN3.out) (Nat.le_refl 0) (Kd.F_nil _ _ _)) (fun k hk => ⟨⟨(HD.out.fresh HO.out k hk).1.1, by simp [Value.ownBlock]⟩, (HD.out.fresh HO.out k hk).1.2⟩) (fun k hk => ⟨(HD3.out.fresh HO.out k hk).1.1, by simp [Value.ownBlock]⟩) HD3.out.row HD3.out.bel HD3.out.bel.size (by have := HL.out; omega) ?_
   intro v1 w4 hR1 hB1 hg1 hat
   obtain ⟨A4, n4, rfl⟩ := Kd.N_slice hR1
   obtain ⟨hb1, hW⟩ := HD3.out.appv hR1 hB1 hg1 hat
   have HW := Aside0.mk hW
   have hd0 : w4.cell? ⟨g, 0, none⟩ = some (.slice A1 o.length n1) := (blk_cell hb1 0).trans rfl
   have hdf := blk_frozen hb1 0
   clear hR1 hB1 hg1 hat hb1 hW
   refine hK.out _ _ (hd0) (fun hHeld => ?_)
   clear hK K
   refine norm_ (a' := ?_) ?_ ?_
   rotate_left
   ·show Act.put _ (some 64) _ = _
    simp only [Act.put, sA, sB, sC, i64_w, i32_w]
    rfl
   refine pure_ (i := 11) (N := some 65) (v := ?_) (a' := ?_) (bm 4095 14) rfl rfl (by kernel_rfl) (fun _ _ _ h => h) (Or.inl ⟨by rfl, ?_⟩) ?_ ?_
   rotate_left
   ·intro w'
    go_simp
    with_reducible rfl
   rotate_left
   ·simp only [Act.put, sA, sB, sC, i64_w, i32_w]
    rfl
   refine pure_ (i := 12) (N := some 66) (v := ?_) (a' := ?_) (bm 8191 14) rfl rfl (by kernel_rfl) (fun _ _ _ h => h) (Or.inl ⟨by rfl, ?_⟩) ?_ ?_
   rotate_left
   ·intro w'
    go_simp
    with_reducible rfl
   rotate_left
   ·simp only [Act.put, sA, sB, sC, i64_w, i32_w]
    rfl
   refine last_ (i := 13) (N := none) (bm 16383 14) rfl rfl (by kernel_rfl) (by decide) (fun K hK => ?_)
   refine skip_ (w1 := ?_) (by rfl) rfl ?_ ?_
   rotate_left
   ·go_simp
    rfl
   refine hK.out _ _ ?_
   clear hK K
   refine done_ (by kernel_rfl) ?_
   go_wp2
   go_end0
   exact ⟨rfl, _, by have := HW.out; rw [List.length_append] at this; exact this⟩
structure WD where
 out : List S70
 add : List S84
 cut : Int
def keepF (k : Nat) (s : WD) (n : Int) (attrs : List S38) : Option WD :=
 if n = 0 then some s else if 1099511627776 < s.out.length ∨ 1099511627776 < attrs.length then none else (keepB k (flushD s.out s.add s.cut) attrs).bind fun b => some ⟨keepO (flushD s.out s.add s.cut) n attrs b, [], 0⟩
def elemsF (k : Nat) (s : WD) (l : List S84) : Option WD :=
 (flow_Copy.f k l).bind fun r => if 1099511627776 < s.add.length + r.length then none else some ⟨s.out, s.add ++ r, s.cut⟩
def doneD (k : Nat) (s : WD) : Option (List S70 × Int) :=
 if 1099511627776 < s.out.length then none else (delta_Check.f k (flushD s.out s.add s.cut)).bind fun e => if e ≠ 0 then some ([], 3) else some (flushD s.out s.add s.cut, 0)
def WrS (ok : Nat → Prop) (w0 wI : World) (g : Nat) (vI uI : Value) (s : WD) (v u : Value) (w : World) : Prop := WrD ok w0 wI g vI uI s.out s.add s.cut v u w
theorem keepF_calls (ok : Nat → Prop) (w0 : World) (g : Nat) (s s' : WD) (n : Int) (vI uI : Value) (w : World) (k : Nat) (A : Option Addr) (c : Nat) (attrs : List S38) (h : WrS ok w0 w g vI uI s vI uI w) (hok : ∀ k, w.heap.size ≤ k → ok k)
  (hF : Kd.F k38 w (Off g vI uI) A attrs.length attrs) (hc : attrs.length ≤ c) (hf : keepF k s n attrs = some s') :
  Calls Try.prog 86 #[.pointer (some ⟨g, 0, none⟩), .int .i64 n, .slice A attrs.length c] w fun e w' => e = .returned (.tuple #[]) ∧ ∃ v u, WrS ok w0 w g vI uI s' v u w' := by
 rw [keepF] at hf
 by_cases c1 : n = 0
 ·rw [if_pos c1] at hf
  injection hf with hf
  subst hf
  subst c1
  exact (keep_zero ok w0 g s.out s.add s.cut vI uI w A c attrs h).mono (fun e w' ⟨he, hw⟩ => ⟨he, vI, uI, hw⟩)
 ·rw [if_neg c1] at hf
  by_cases c2 : 1099511627776 < s.out.length ∨ 1099511627776 < attrs.length
  ·rw [if_pos c2] at hf
   cases hf
  rw [if_neg c2] at hf
  obtain ⟨b, hb, hf⟩ := Option.bind_eq_some_iff.1 hf
  injection hf with hf
  subst hf
  exact (keep_calls ok w0 g s.out s.add s.cut n vI uI w k A c attrs b h hok hF hc (by omega) (by omega) c1 hb).mono (fun e w' ⟨he, v, hw⟩ => ⟨he, v, _, hw⟩)
theorem elemsF_calls (ok : Nat → Prop) (w0 : World) (g : Nat) (s s' : WD) (vI uI : Value) (w : World) (k : Nat) (A : Option Addr) (c : Nat) (l : List S84) (h : WrS ok w0 w g vI uI s vI uI w) (hok : ∀ k, w.heap.size ≤ k → ok k)
  (hr : Kd.C k84 w A l.length l) (hc : l.length ≤ c) (hf : elemsF k s l = some s') :
  Calls Try.prog 87 #[.pointer (some ⟨g, 0, none⟩), .slice A l.length c] w fun e w' => e = .returned (.tuple #[]) ∧ ∃ v u, WrS ok w0 w g vI uI s' v u w' := by
 obtain ⟨r, hr2, hf⟩ := Option.bind_eq_some_iff.1 hf
 by_cases c2 : 1099511627776 < s.add.length + r.length
 ·rw [if_pos c2] at hf
  cases hf
 rw [if_neg c2] at hf
 injection hf with hf
 subst hf
 exact (elems_calls ok w0 g s.out s.add s.cut vI uI w k A c l r h hok hr hc hr2 (by omega)).mono (fun e w' ⟨he, u, hw⟩ => ⟨he, _, u, hw⟩)
set_option maxRecDepth 100000 in
set_option maxHeartbeats 4000000 in
theorem doneD_calls (ok : Nat → Prop) (w0 : World) (g : Nat) (s : WD) (r1 : List S70) (r2 : Int) (vI uI : Value) (w : World) (k : Nat) (h : WrS ok w0 w g vI uI s vI uI w) (hok : ∀ k, w.heap.size ≤ k → ok k) (hf : doneD k s = some (r1, r2)) :
  Calls Try.prog 88 #[.pointer (some ⟨g, 0, none⟩)] w fun e w' => ∃ v, e = .returned (.tuple #[v, .int .i64 r2]) ∧ Kd.N k70 70 w' w0.heap.size (fun k => ok k ∧ k ≠ g) v r1 ∧ Below w0.heap.size w0 w' ∧ ∃ vM, Moves2 w w' g vI uI vM (.slice none 0 0) ∧ (v.ownBlock = none ∨ v = vM) := by
 have hu70 := Try.underlying70
 have hu127 := Try.underlying127
 rw [doneD] at hf
 by_cases c2 : 1099511627776 < s.out.length
 ·rw [if_pos c2] at hf
  cases hf
 rw [if_neg c2] at hf
 have HF := Aside0.mk (flush_calls ok w0 g s.out s.add s.cut vI uI w h hok (by omega))
 obtain ⟨o, ho⟩ : ∃ o, o = flushD s.out s.add s.cut := ⟨_, rfl⟩
 rw [← ho] at HF hf
 clear ho h hok c2
 replace hf := Option.bind_eq_some_iff.1 hf
 obtain ⟨e, he, hf⟩ := hf
 have HE := Aside0.mk he
 clear he
 by_cases c1 : e ≠ 0
 ·rw [if_pos c1] at hf
  have c1b : (e != 0) = true := bne_iff_ne.mpr c1
  simp only [Option.some.injEq, Prod.mk.injEq] at hf
  obtain ⟨rfl, rfl⟩ := hf
  clear c1
  go_enter Try.func88, Try.ntmps88
  go_wp2_with (go_at_call 110; refine HF.out.mono ?_)
  rintro e1 w1 ⟨rfl, v, hS⟩
  obtain ⟨A1, n1, rfl⟩ := Kd.N_slice hS.row
  have HS := Aside0.mk hS
  have hc0 : w1.cell? ⟨g, 0, none⟩ = some (.slice A1 o.length n1) := (blk_cell HS.out.blk 0).trans rfl
  clear hS HF
  go_wp2_with (go_at_call 93; (with_reducible refine (delta_Check.calls k _ _ o e _ (Kd.N_reads' HS.out.row).2.2 (Kd.N_reads' HS.out.row).2.1 HE.out).mono ?_); rintro e1 w2 ⟨rfl, hb⟩; have HB2 := Aside0.mk hb; clear hb)
  first | go_ret | go_ret2
  refine ⟨_, rfl, Kd.N_nil _ _ _ _ _, below_step HS.out.bel HB2.out, _, (HS.out.below HB2.out).mv, .inl rfl⟩
 ·rw [if_neg c1] at hf
  have c1b : (e != 0) = false := by simpa using c1
  simp only [Option.some.injEq, Prod.mk.injEq] at hf
  obtain ⟨rfl, rfl⟩ := hf
  clear c1
  go_enter Try.func88, Try.ntmps88
  go_wp2_with (go_at_call 110; refine HF.out.mono ?_)
  rintro e1 w1 ⟨rfl, v, hS⟩
  obtain ⟨A1, n1, rfl⟩ := Kd.N_slice hS.row
  have HS := Aside0.mk hS
  have hc0 : w1.cell? ⟨g, 0, none⟩ = some (.slice A1 o.length n1) := (blk_cell HS.out.blk 0).trans rfl
  have hglt := blk_lt hS.blk
  clear hS HF
  go_wp2_with (go_at_call 93; (with_reducible refine (delta_Check.calls k _ _ o e _ (Kd.N_reads' HS.out.row).2.2 (Kd.N_reads' HS.out.row).2.1 HE.out).mono ?_); rintro e1 w2 ⟨rfl, hb⟩; have HB2 := Aside0.mk hb; clear hb; replace hc0 := (HB2.out.cell hglt).trans hc0)
  first | go_ret | go_ret2
  exact ⟨_, rfl, (HS.out.below HB2.out).weak.row, below_step HS.out.bel HB2.out, _, (HS.out.below HB2.out).mv, .inr rfl⟩
def tidyC (x : S70) (e : Int) : Bool := if x.f0 = 1 then decide (x.f3.length = 0 ∧ e = 11) else decide (x.f1 = 0 ∧ e = 2)
def tidyE (k : Nat) (x : S70) (e : Int) : Option Int := if tidyC x e = true then attr_CheckChange.f k x.f2 else some e
def tidyL (k : Nat) : List S70 → WD → Option (List S70 × Int)
 | [], s => doneD k s
 | x :: r, s => (delta_step.f k x.f0 x.f1 x.f2 x.f3).bind fun e0 => (tidyE k x e0).bind fun e =>
  if e ≠ 0 then some ([], e) else if x.f0 = 0 then (keepF k s x.f1 x.f2).bind (tidyL k r) else if x.f0 = 1 then (elemsF k s x.f3).bind (tidyL k r)
  else if wrap64 (s.cut + x.f1) > 2147483647 then some ([], 3) else tidyL k r ⟨s.out, s.add, wrap64 (s.cut + x.f1)⟩
def tidyF (k : Nat) (l : List S70) : Option (List S70 × Int) := if 1099511627776 < l.length then none else tidyL k l ⟨[], [], 0⟩
theorem drop_T70 (l : List S70) (i : Nat) (h : i < l.length) : l.drop i = rd_T70 l (i : Int) :: l.drop (i + 1) := by
 rw [List.drop_eq_getElem_cons h]
 simp [rd_T70, List.getD_eq_getElem?_getD, List.getElem?_eq_getElem h]
theorem off_in {ok : Nat → Prop} {w0 wI w : World} {g : Nat} {vI uI v u : Value} {s : WD} {A : Option Addr} {n : Nat} {xs : List S38} (hs : WrS ok w0 wI g vI uI s v u w) (h : Kd.C k38 w0 A n xs) : Kd.F k38 w (Off g v u) A n xs := by
 refine Kd.F_mono (Kd.F_step (Kd.C_F k38_heap h) (fun k hk _ => hs.bel.block k hk)) (fun k hk => ⟨⟨fun e => ?_, fun e => ?_⟩, fun e => ?_⟩)
 ·have := hs.ge; omega
 ·have := Kd.N_base hs.row k e.symm; omega
 ·have := Kd.N_base hs.radd k e.symm; omega
structure TSt (w0 : World) (gw : Nat) (s : WD) (gb : Nat) (x : S70) (A2 : Option Addr) (c2 : Nat) (A3 : Option Addr) (c3 : Nat) (wr : World) : Prop where
 ws : ∃ v u, WrS (fun _ => True) w0 wr gw v u s v u wr
 bk : wr.heap[gb]? = some (.cells #[.int .i64 x.f0, .int .i64 x.f1, .slice A2 x.f2.length c2, .slice A3 x.f3.length c3] 70 (0, 0))
theorem WrS.fwd {ok : Nat → Prop} {w0 wI w w1 : World} {g : Nat} {vI uI v u : Value} {s : WD} (h : WrS ok w0 wI g vI uI s v u w) (hb : Below w.heap.size w w1) : WrS ok w0 w1 g v u s v u w1 := WrD.here (WrD.below h hb)
theorem TSt.below {w0 : World} {gw : Nat} {s : WD} {gb : Nat} {x : S70} {A2 : Option Addr} {c2 : Nat} {A3 : Option Addr} {c3 : Nat} {wr w1 : World} (h : TSt w0 gw s gb x A2 c2 A3 c3 wr) (hb : Below wr.heap.size wr w1) : TSt w0 gw s gb x A2 c2 A3 c3 w1 := by
 obtain ⟨v, u, hw⟩ := h.ws
 exact ⟨⟨v, u, hw.fwd hb⟩, (hb.block _ (blk_lt h.bk)).trans h.bk⟩
theorem TSt.bel {w0 : World} {gw : Nat} {s : WD} {gb : Nat} {x : S70} {A2 : Option Addr} {c2 : Nat} {A3 : Option Addr} {c3 : Nat} {wr : World} (h : TSt w0 gw s gb x A2 c2 A3 c3 wr) : Below w0.heap.size w0 wr := by
 obtain ⟨v, u, hw⟩ := h.ws
 exact hw.bel
set_option maxRecDepth 100000 in
set_option maxHeartbeats 16000000 in
theorem tidy_calls (k : Nat) (A0 : Option Addr) (c0 : Nat) (l0 : List (S70)) (r1 : List (S70)) (r2 : Int) (w : World) (hr0 : Kd.C k70 w A0 l0.length l0) (hc0 : l0.length ≤ c0) (h : tidyF k l0 = some (r1, r2)) :
  Calls Try.prog 44 #[.slice A0 l0.length c0] w fun e w' => ∃ v0_ : Value, e = .returned (.tuple #[v0_, .int .i64 r2]) ∧ Kd.N k70 70 w' w.heap.size (fun _ => True) v0_ r1 ∧ Below w.heap.size w w' := by
 have hu70 := Try.underlying70
 have hu127 := Try.underlying127
 have HR0 := Aside0.mk hr0
 have HC0 := Aside0.mk hc0
 clear hr0 hc0
 rw [tidyF] at h
 by_cases d0 : 1099511627776 < l0.length
 ·rw [if_pos d0] at h
  cases h
 rw [if_neg d0] at h
 have HLEN := Aside0.mk d0
 have HZ := Aside0.mk (show tidyL k (l0.drop 0) ⟨[], [], 0⟩ = some (r1, r2) from h)
 clear d0 h
 have HJ0 : Aside0 (∃ v u, WrS (fun _ => True) w (w.alloc (Obj.cells #[Value.slice none 0 0, Value.slice none 0 0, Value.int IntKind.i64 0] 127 (0, 0))) w.heap.size v u ⟨[], [], 0⟩ v u (w.alloc (Obj.cells #[Value.slice none 0 0, Value.slice none 0 0, Value.int IntKind.i64 0] 127 (0, 0)))) :=
  ⟨.slice none 0 0, .slice none 0 0, Nat.le_refl _, blk_new w _, Kd.N_nil _ _ _ _ _, Kd.N_nil _ _ _ _ _, below_alloc (Below.refl _ _) _, Moves2.refl _ _ _ _⟩
 go_enter Try.func44, Try.ntmps44
 go_wp2
 go_loopg [10] l0.length (fun m v10 wr => ∃ (i : Nat) (s : WD), v10 = .int .i64 (i : Int) ∧ Aside0 (m + i = l0.length) ∧ Aside0 (∃ v u, WrS (fun _ => True) w wr w.heap.size v u s v u wr) ∧ Aside0 (tidyL k (l0.drop i) s = some (r1, r2)))
 case atStart => exact ⟨0, ⟨[], [], 0⟩, rfl, ⟨rfl⟩, HJ0, HZ⟩
 case round =>
  clear HJ0 HZ
  obtain ⟨i, s, rfl, HI, HW, HL⟩ := hrel
  by_cases d2 : i < l0.length
  rotate_left
  ·have g1 : decide ((i : Int) < (l0.length : Int)) = false := decide_eq_false (by omega)
   have g1' : decide (i < l0.length) = false := decide_eq_false d2
   have hL := HL.out
   rw [List.drop_eq_nil_of_le (by omega), tidyL] at hL
   have HD := Aside0.mk hL
   clear d2 HL hL
   go_wp2_with (go_at_call 88; (obtain ⟨v, u, hv⟩ := HW.out); (with_reducible refine (doneD_calls _ w w.heap.size s r1 r2 v u _ k hv (fun _ _ => trivial) HD.out).mono ?_); rintro e1 w6 ⟨v6, rfl, hR, hB, hM⟩; obtain ⟨A9, n9, hv9⟩ := Kd.N_slice hR; subst hv9; have HR9 := Aside0.mk hR; have HB9 := Aside0.mk hB; clear hR hB hM hv)
   first | go_ret | go_ret2
   exact ⟨_, rfl, Kd.N_mono HR9.out (fun _ _ => trivial), HB9.out⟩
  obtain ⟨gl, rfl⟩ : ∃ gl, gk = gl + 1 := ⟨gk - 1, by have := HI.out; omega⟩
  have hL := HL.out
  rw [drop_T70 l0 i d2, tidyL] at hL
  have HWB : Aside0 (Below w.heap.size w wr) := by
   obtain ⟨v, u, hv⟩ := HW.out
   exact ⟨hv.bel⟩
  have g1 : decide ((i : Int) < (l0.length : Int)) = true := decide_eq_true (by omega)
  have g1' : decide (i < l0.length) = true := decide_eq_true d2
  have q1 : (i : Int) < (l0.length : Int) := by omega
  obtain ⟨ad0, A2, c2, A3, c3, e0, hx0, hx1, hx2, hx3, hl2, hg2, hl3, hg3⟩ := at_T70 HR0.out (i : Int) (by omega) q1
  cases e0
  replace hx0 := (HWB.out.cell (World.block_lt_of_cell? w _ hx0)).trans hx0
  replace hx1 := (HWB.out.cell (World.block_lt_of_cell? w _ hx1)).trans hx1
  replace hx2 := (HWB.out.cell (World.block_lt_of_cell? w _ hx2)).trans hx2
  replace hx3 := (HWB.out.cell (World.block_lt_of_cell? w _ hx3)).trans hx3
  simp only [Int.toNat_natCast] at hx0 hx1 hx2 hx3
  have wk : wrap64 ((i : Int) + 1) = (i : Int) + 1 := by have := HLEN.out; unfold wrap64; omega
  obtain ⟨x, hx⟩ : ∃ x, x = rd_T70 l0 (i : Int) := ⟨_, rfl⟩
  rw [← hx] at hx0 hx1 hx2 hx3 hl2 hg2 hl3 hg3 hL
  clear hx d2 HL
  obtain ⟨er, her, hL⟩ := Option.bind_eq_some_iff.1 hL
  obtain ⟨es, hes, hL⟩ := Option.bind_eq_some_iff.1 hL
  have HER := Aside0.mk her
  have HES := Aside0.mk hes
  have HL := Aside0.mk hL
  have HL2 := Aside0.mk hl2
  have HL3 := Aside0.mk hl3
  have HG2 := Aside0.mk hg2
  have HG3 := Aside0.mk hg3
  clear her hes hL hl2 hl3 hg2 hg3
  have HT0 : Aside0 (TSt w w.heap.size s wr.heap.size x A2 c2 A3 c3 (wr.alloc (Obj.cells #[.int .i64 x.f0, .int .i64 x.f1, .slice A2 x.f2.length c2, .slice A3 x.f3.length c3] 70 (0, 0)))) := by
   obtain ⟨v, u, hv⟩ := HW.out
   exact ⟨⟨v, u, hv.fwd (below_alloc (Below.refl _ _) _)⟩, blk_new wr _⟩
  clear HW HWB
  go_upto_region 6 with (go_at_call 85; refine (delta_step.calls k x.f0 x.f1 A2 c2 x.f2 A3 c3 x.f3 er _ (Kd.C_below HG2.out HT0.out.bel) HL2.out (Kd.C_below HG3.out HT0.out.bel) HL3.out HER.out).mono ?_; rintro e w2 ⟨rfl, hb⟩; have HT2 := Aside0.mk (HT0.out.below hb); clear hb HT0)
  obtain ⟨gb, hgb⟩ : ∃ g, g = wr.heap.size := ⟨_, rfl⟩
  rw [← hgb] at HT2
  rw [← hgb]
  clear hgb hx0 hx1 hx2 hx3
  go_cut [42] (fun v42 wx => v42 = .bool (tidyC x er) ∧ wx = w2)
  case first =>
   have q0 : w2.cell? ⟨gb, 0, none⟩ = some (.int .i64 x.f0) := (blk_cell HT2.out.bk 0).trans rfl
   have q1 : w2.cell? ⟨gb, 1, none⟩ = some (.int .i64 x.f1) := (blk_cell HT2.out.bk 1).trans rfl
   have q3 : w2.cell? ⟨gb, 3, none⟩ = some (.slice A3 x.f3.length c3) := (blk_cell HT2.out.bk 3).trans rfl
   by_cases f1 : x.f0 = 1
   ·have b1 : (x.f0 == 1) = true := beq_iff_eq.mpr f1
    have b2 : (x.f0 != 1) = false := by rw [bne, b1]; rfl
    by_cases f2 : x.f3.length = 0
    ·have b3 : ((x.f3.length : Int) == 0) = true := beq_iff_eq.mpr (by omega)
     have b3' : (x.f3.length == 0) = true := beq_iff_eq.mpr f2
     by_cases f3 : er = 11
     ·have b4 : (er == 11) = true := beq_iff_eq.mpr f3
      have e : tidyC x er = true := by rw [tidyC, if_pos f1]; exact decide_eq_true ⟨f2, f3⟩
      have EC := Aside0.mk e
      clear f1 f2 f3 e
      go_wp2
      go_meet
      case rel => exact ⟨by rw [EC.out], rfl⟩
     ·have b4 : (er == 11) = false := beq_eq_false_iff_ne.mpr f3
      have e : tidyC x er = false := by rw [tidyC, if_pos f1]; exact decide_eq_false (fun h => f3 h.2)
      have EC := Aside0.mk e
      clear f1 f2 f3 e
      go_wp2
      go_meet
      case rel => exact ⟨by rw [EC.out], rfl⟩
    ·have b3 : ((x.f3.length : Int) == 0) = false := beq_eq_false_iff_ne.mpr (by omega)
     have b3' : (x.f3.length == 0) = false := beq_eq_false_iff_ne.mpr f2
     have e : tidyC x er = false := by rw [tidyC, if_pos f1]; exact decide_eq_false (fun h => f2 h.1)
     have EC := Aside0.mk e
     clear f1 f2 e
     go_wp2
     go_meet
     case rel => exact ⟨by rw [EC.out], rfl⟩
   ·have b1 : (x.f0 == 1) = false := beq_eq_false_iff_ne.mpr f1
    have b2 : (x.f0 != 1) = true := bne_iff_ne.mpr f1
    by_cases f2 : x.f1 = 0
    ·have b3 : (x.f1 == 0) = true := beq_iff_eq.mpr f2
     by_cases f3 : er = 2
     ·have b4 : (er == 2) = true := beq_iff_eq.mpr f3
      have e : tidyC x er = true := by rw [tidyC, if_neg f1]; exact decide_eq_true ⟨f2, f3⟩
      have EC := Aside0.mk e
      clear f1 f2 f3 e
      go_wp2
      go_meet
      case rel => exact ⟨by rw [EC.out], rfl⟩
     ·have b4 : (er == 2) = false := beq_eq_false_iff_ne.mpr f3
      have e : tidyC x er = false := by rw [tidyC, if_neg f1]; exact decide_eq_false (fun h => f3 h.2)
      have EC := Aside0.mk e
      clear f1 f2 f3 e
      go_wp2
      go_meet
      case rel => exact ⟨by rw [EC.out], rfl⟩
    ·have b3 : (x.f1 == 0) = false := beq_eq_false_iff_ne.mpr f2
     have e : tidyC x er = false := by rw [tidyC, if_neg f1]; exact decide_eq_false (fun h => f2 h.1)
     have EC := Aside0.mk e
     clear f1 f2 e
     go_wp2
     go_meet
     case rel => exact ⟨by rw [EC.out], rfl⟩
  case rest =>
   obtain ⟨rfl, rfl⟩ := hcut
   have hE := HES.out
   rw [tidyE] at hE
   obtain ⟨tc, htc⟩ : ∃ t, t = tidyC x er := ⟨_, rfl⟩
   rw [← htc] at hE
   rw [← htc]
   clear htc HES
   go_upto_if 42 with (fail)
   go_cut [7] (fun v7 wx => v7 = .int .i64 es ∧ Aside0 (TSt w w.heap.size s gb x A2 c2 A3 c3 wx))
   case first =>
    cases tc with
    | true =>
     rw [if_pos rfl] at hE
     have HE := Aside0.mk hE
     have q2 : wc.cell? ⟨gb, 2, none⟩ = some (.slice A2 x.f2.length c2) := (blk_cell HT2.out.bk 2).trans rfl
     clear hE
     go_wp2_with (go_at_call 65; refine (attr_CheckChange.calls k A2 c2 x.f2 es _ (Kd.C_below HG2.out HT2.out.bel) HL2.out HE.out).mono ?_; rintro e w3 ⟨rfl, hb⟩; have HT3 := Aside0.mk (HT2.out.below hb); clear hb)
     go_meet
     case rel => exact ⟨rfl, HT3⟩
    | false =>
     rw [if_neg (by decide)] at hE
     injection hE with hE
     subst hE
     go_wp2
     go_meet
     case rel => exact ⟨rfl, HT2⟩
   case rest =>
    clear hE HT2
    obtain ⟨rfl, HT⟩ := hcut
    have hL := HL.out
    clear HL
    by_cases d3 : es ≠ 0
    ·rw [if_pos d3] at hL
     have d3b : (es != 0) = true := bne_iff_ne.mpr d3
     simp only [Option.some.injEq, Prod.mk.injEq] at hL
     obtain ⟨rfl, rfl⟩ := hL
     clear d3
     go_wp2
     first | go_ret | go_ret2
     exact ⟨_, rfl, Kd.N_nil _ _ _ _ _, HT.out.bel⟩
    rw [if_neg d3] at hL
    have d3b : (es != 0) = false := by simpa using d3
    clear d3
    have q0 : wc.cell? ⟨gb, 0, none⟩ = some (.int .i64 x.f0) := (blk_cell HT.out.bk 0).trans rfl
    have q1 : wc.cell? ⟨gb, 1, none⟩ = some (.int .i64 x.f1) := (blk_cell HT.out.bk 1).trans rfl
    by_cases d4 : x.f0 = 0
    ·rw [if_pos d4] at hL
     have d4b : (x.f0 == 0) = true := beq_iff_eq.mpr d4
     obtain ⟨s', hs', hL⟩ := Option.bind_eq_some_iff.1 hL
     have HS' := Aside0.mk hs'
     have HL := Aside0.mk hL
     have q2 : wc.cell? ⟨gb, 2, none⟩ = some (.slice A2 x.f2.length c2) := (blk_cell HT.out.bk 2).trans rfl
     clear hs' hL d4
     go_wp2_with (go_at_call 86; (obtain ⟨v, u, hv⟩ := HT.out.ws); (with_reducible refine (keepF_calls _ w w.heap.size s s' x.f1 v u _ k A2 c2 x.f2 hv (fun _ _ => trivial) (off_in hv HG2.out) HL2.out HS'.out).mono ?_); rintro e w3 ⟨rfl, v3, u3, hW3⟩; have HW3 := Aside0.mk hW3; clear hW3)
     go_roundg gl
     case measure => omega
     case rel => exact ⟨i + 1, s', by simp [wk], ⟨by have := HI.out; omega⟩, ⟨_, _, WrD.here HW3.out⟩, HL⟩
    rw [if_neg d4] at hL
    have d4b : (x.f0 == 0) = false := beq_eq_false_iff_ne.mpr d4
    clear d4
    by_cases d5 : x.f0 = 1
    ·rw [if_pos d5] at hL
     have d5b : (x.f0 == 1) = true := beq_iff_eq.mpr d5
     obtain ⟨s', hs', hL⟩ := Option.bind_eq_some_iff.1 hL
     have HS' := Aside0.mk hs'
     have HL := Aside0.mk hL
     have q3 : wc.cell? ⟨gb, 3, none⟩ = some (.slice A3 x.f3.length c3) := (blk_cell HT.out.bk 3).trans rfl
     clear hs' hL d5
     go_wp2_with (go_at_call 87; (obtain ⟨v, u, hv⟩ := HT.out.ws); ((refine (elemsF_calls _ w w.heap.size s s' v u _ k A3 c3 x.f3 hv (fun _ _ => trivial) (Kd.C_below HG3.out (WrD.bel hv)) HL3.out HS'.out).mono ?_)); rintro e w3 ⟨rfl, v3, u3, hW3⟩; have HW3 := Aside0.mk hW3; clear hW3)
     go_roundg gl
     case measure => omega
     case rel => exact ⟨i + 1, s', by simp [wk], ⟨by have := HI.out; omega⟩, ⟨_, _, WrD.here HW3.out⟩, HL⟩
    rw [if_neg d5] at hL
    have d5b : (x.f0 == 1) = false := beq_eq_false_iff_ne.mpr d5
    clear d5
    have HWP : Aside0 (∃ v u, WrS (fun _ => True) w (wc.setCell ⟨w.heap.size, 2, none⟩ (.int .i64 (wrap64 (s.cut + x.f1)))) w.heap.size v u ⟨s.out, s.add, wrap64 (s.cut + x.f1)⟩ v u (wc.setCell ⟨w.heap.size, 2, none⟩ (.int .i64 (wrap64 (s.cut + x.f1))))) := by
     obtain ⟨v, u, hv⟩ := HT.out.ws
     exact ⟨v, u, WrD.here (WrD.put2 hv _)⟩
    have hcut2 : wc.cell? ⟨w.heap.size, 2, none⟩ = some (.int .i64 s.cut) := by
     obtain ⟨v, u, hv⟩ := HT.out.ws
     exact (blk_cell hv.blk 2).trans rfl
    have hfz2 : wc.frozen? ⟨w.heap.size, 2, none⟩ = false := by
     obtain ⟨v, u, hv⟩ := HT.out.ws
     exact blk_frozen hv.blk 2
    by_cases d6 : wrap64 (s.cut + x.f1) > 2147483647
    ·rw [if_pos d6] at hL
     have d6b : decide (2147483647 < wrap64 (s.cut + x.f1)) = true := decide_eq_true d6
     simp only [Option.some.injEq, Prod.mk.injEq] at hL
     obtain ⟨rfl, rfl⟩ := hL
     clear d6
     go_wp2
     first | go_ret | go_ret2
     obtain ⟨v, u, hv⟩ := HWP.out
     exact ⟨_, rfl, Kd.N_nil _ _ _ _ _, hv.bel⟩
    ·rw [if_neg d6] at hL
     have d6b : decide (2147483647 < wrap64 (s.cut + x.f1)) = false := decide_eq_false d6
     have HL := Aside0.mk hL
     clear d6 hL
     go_wp2
     go_roundg gl
     case measure => omega
     case rel => exact ⟨i + 1, ⟨s.out, s.add, wrap64 (s.cut + x.f1)⟩, by simp [wk], ⟨by have := HI.out; omega⟩, HWP, HL⟩
theorem drop_T84 (l : List S84) (i : Nat) (h : i < l.length) : l.drop i = rd_T84 l (i : Int) :: l.drop (i + 1) := by
 rw [List.drop_eq_getElem_cons h]
 simp [rd_T84, List.getD_eq_getElem?_getD, List.getElem?_eq_getElem h]
section
variable {w0 : World} {gw : Nat} {s s' : WD} {gb : Nat} {x : S70} {A2 : Option Addr} {c2 : Nat} {A3 : Option Addr} {c3 : Nat} {wr w1 : World} {gx : Nat} {y : S84} {B2 : Option Addr} {m2 : Nat}
end
end Go.Proofs.Ytdgemabmmomebaa.PDelta
end
section
namespace Go.Proofs.Ytdgemabmmomebaa.PDelta
open Go.RowKit Go.Proofs.YtdgemabmmomebaaW.PrintWords Go.Proofs.YtdgemabmmomebaaW.PrintLast Go.Proofs.YtdgemabmmomebaaW.PrintMore
attribute [local go_sem] max2_int min2_int max_two min_two max_three min_three max_four min_four
attribute [local go_sem high] Go.Proofs.Ytdgemabmmomebaa.Ord.leq_str Go.Proofs.Ytdgemabmmomebaa.Ord.gtr_str Go.Proofs.Ytdgemabmmomebaa.Ord.geq_str


end Go.Proofs.Ytdgemabmmomebaa.PDelta
end

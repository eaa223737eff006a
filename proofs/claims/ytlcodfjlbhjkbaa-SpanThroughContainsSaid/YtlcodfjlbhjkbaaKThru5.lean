/- Parts of the proof of Thru: nothing is claimed here by itself. -/
import Derived.Test.YtlcodfjlbhjkbaaKThru4
set_option linter.unusedVariables false
set_option linter.unusedSimpArgs false
section
namespace Go.Proofs.Ytlcodfjlbhjkbaa.PDelta
open Go.RowKit Go.Proofs.YtlcodfjlbhjkbaaW.PrintWords Go.Proofs.YtlcodfjlbhjkbaaW.PrintLast Go.Proofs.YtlcodfjlbhjkbaaW.PrintMore
attribute [local go_sem] max2_int min2_int max_two min_two max_three min_three max_four min_four
attribute [local go_sem high] Go.Proofs.Ytlcodfjlbhjkbaa.Ord.leq_str Go.Proofs.Ytlcodfjlbhjkbaa.Ord.gtr_str Go.Proofs.Ytlcodfjlbhjkbaa.Ord.geq_str
def delta_Axis.l0 : Nat → List (S121) → List (S95) → Int → Int → Option ((List (S121)) × Int)
 | 0, _, _, _, _ => none
 | k + 1, x5, x14, x15, x16 => if x16 < x15 then (if 0 ≤ x16 then (if x16 < (x14.length : Int) then (if ((rd_T95 x14 x16).f0) = 0 then (if (wrap64 ((x5.length : Int) - 1)) ≥ 0 then (if 0 ≤ (wrap64 ((x5.length : Int) - 1)) then (if (wrap64 ((x5.length : Int) - 1)) < (x5.length : Int) then (if ((rd_T121 x5 (wrap64 ((x5.length : Int) - 1))).f0) = 0 then (delta_Axis.l0 k (x5.set ((wrap64 ((x5.length : Int) - 1)) : Int).toNat (⟨(rd_T121 x5 (wrap64 ((x5.length : Int) - 1))).f0, wrap64 (((rd_T121 x5 (wrap64 ((x5.length : Int) - 1))).f1) + ((rd_T95 x14 x16).f1))⟩ : S121)) x14 x15 (wrap64 (x16 + 1))) else ((delta_size.f ((rd_T95 x14 x16).f0) ((rd_T95 x14 x16).f1) ((rd_T95 x14 x16).f2) ((rd_T95 x14 x16).f3)).bind fun t450 => (if x5.length < 8796093022208 then (delta_Axis.l0 k (x5 ++ [(⟨(rd_T95 x14 x16).f0, t450⟩ : S121)]) x14 x15 (wrap64 (x16 + 1))) else (none)))) else (none)) else (none)) else ((delta_size.f ((rd_T95 x14 x16).f0) ((rd_T95 x14 x16).f1) ((rd_T95 x14 x16).f2) ((rd_T95 x14 x16).f3)).bind fun t454 => (if x5.length < 8796093022208 then (delta_Axis.l0 k (x5 ++ [(⟨(rd_T95 x14 x16).f0, t454⟩ : S121)]) x14 x15 (wrap64 (x16 + 1))) else (none)))) else ((delta_size.f ((rd_T95 x14 x16).f0) ((rd_T95 x14 x16).f1) ((rd_T95 x14 x16).f2) ((rd_T95 x14 x16).f3)).bind fun t458 => (if x5.length < 8796093022208 then (delta_Axis.l0 k (x5 ++ [(⟨(rd_T95 x14 x16).f0, t458⟩ : S121)]) x14 x15 (wrap64 (x16 + 1))) else (none)))) else (none)) else (none)) else (some (x5, 0))
def delta_Axis.f (k : Nat) (l0 : List (S95)) : Option ((List (S121)) × Int) := (delta_Check.f k l0).bind fun t444 => (if t444 = 0 then (delta_Axis.l0 k ([] : List (S121)) l0 (l0.length : Int) 0) else (some (([] : List (S121)), t444)))
def delta_Axis.T10 : Bool × List (List Nat × List Nat) := (true, [([], []), ([], []), ([0, 1], [0, 1]), ([2], [2]), ([3], [3]), ([], []), ([5], [5]), ([4, 6], [4, 6]), ([0, 1, 0, 1, 2, 3, 4, 5, 6, 7], [0, 1]), ([8, 0, 1, 2, 3, 4, 5, 6, 7], [8]), ([9, 7, 0, 1, 2, 3, 4, 5, 6, 7], [7, 9])])
def delta_Axis.B10 : List Nat := [0, 0, 3, 7, 15, 0, 32, 127, 255, 511, 1023]
theorem delta_Axis.tab10 : rtab .any (opsOf Try.f32 10) = delta_Axis.T10 := by kernel_rfl
theorem delta_Axis.bits10 : waitsOk delta_Axis.T10.2 delta_Axis.B10 = true := by kernel_rfl
def delta_Axis.T11 : Bool × List (List Nat × List Nat) := (true, [([], []), ([], []), ([1], [1]), ([], []), ([3], [3]), ([2, 4], [2, 4]), ([5], [5]), ([0, 6, 4], [0, 6]), ([7, 7, 0, 1, 2, 3, 4, 5, 6, 7], [0, 7])])
def delta_Axis.B11 : List Nat := [0, 0, 2, 0, 8, 30, 62, 127, 255]
theorem delta_Axis.tab11 : rtab .any (opsOf Try.f32 11) = delta_Axis.T11 := by kernel_rfl
theorem delta_Axis.bits11 : waitsOk delta_Axis.T11.2 delta_Axis.B11 = true := by kernel_rfl
set_option maxHeartbeats 8000000 in
set_option maxRecDepth 100000 in
theorem delta_Axis.calls (k : Nat) (A0 : Option Addr) (c0 : Nat) (l0 : List (S95)) (r1 : List (S121)) (r2 : Int) (w : World) (hr0 : Kd.C k95 w A0 l0.length l0) (hc0 : l0.length ≤ c0) (h : delta_Axis.f k l0 = some (r1, r2)) :
  Calls Try.prog 32 #[.slice A0 l0.length c0] w fun e w' => ∃ v0_ : Value, e = .returned (.tuple #[v0_, .int .i64 r2]) ∧ Kd.R k121 121 w' w.heap.size (fun _ => True) v0_ r1 ∧ Below w.heap.size w w' := by
 have hu95 := Try.underlying95
 have hu121 := Try.underlying121
 have HR0 := Aside0.mk hr0
 have HC0 := Aside0.mk hc0
 clear hr0 hc0
 have HB := Aside0.mk (Below.refl w.heap.size w)
 have H : ((delta_Check.f k l0).bind fun t444 => (if t444 = 0 then (delta_Axis.l0 k ([] : List (S121)) l0 (l0.length : Int) 0) else (some (([] : List (S121)), t444)))) = some (r1, r2) := h
 clear h
 replace H := Option.bind_eq_some_iff.mp H
 obtain ⟨t444, A20, H⟩ := H
 replace H : (if t444 = 0 then (delta_Axis.l0 k ([] : List (S121)) l0 (l0.length : Int) 0) else (some (([] : List (S121)), t444))) = some (r1, r2) := H
 have A2 := Aside0.mk A20
 clear A20
 by_cases c3 : t444 = 0
 ·rw [if_pos c3] at H
  have c3b0 : (t444 == 0) = true := beq_iff_eq.mpr c3
  have c3b1 : (t444 != 0) = false := bne_eq_false_iff_eq.mpr c3
  clear c3
  have H' := Aside0.mk H
  clear H
  go_enter Try.func32, Try.ntmps32
  go_wp2_with (first | ((with_reducible refine gate_callee (f := 67) rfl ?_); refine goesL_ (some 10) rfl rfl Try.func67 (by kernel_rfl) rfl #[.slice A0 l0.length c0] rfl (by (try simp only [List.map_toArray, List.map_cons, List.map_nil]); first | done | rfl | (simp only [List.length_drop, List.length_take]; rfl)) ?_; (with_reducible refine (delta_Check.calls k _ _ l0 t444 _ ?side1 ?side2 A2.out).mono ?_); (case side1 => repeat (first | exact HR0.out | (with_reducible refine Kd.C_alloc ?_ _) | (with_reducible refine Kd.C_drewN ?_ _) | (with_reducible refine Kd.C_drew ?_))); (case side2 => exact HC0.out); rintro e w4 ⟨rfl, hb⟩; refine ⟨_, rfl, ?_⟩; replace HB := Aside0.mk (below_step (by with_reducible repeat first | exact HB.out | apply below_alloc | apply pw_below_drewN | apply below_drew1) hb); (try clear hb); (try clear hb2); (try clear hk); (try clear hi)))
  go_loopg [5, 16] k (fun kq v5 v16 w' => ∃ (x5_1 : List (S121)) (x16_1 : Int), v16 = .int .i64 x16_1 ∧ Aside0 (delta_Axis.l0 kq x5_1 l0 (l0.length : Int) x16_1 = some (r1, r2)) ∧ Aside0 (kq ≤ k) ∧ Aside0 (Kd.R k121 121 w' w.heap.size (fun _ => True) v5 x5_1) ∧ Aside0 (Below w.heap.size w w'))
  case atStart => exact ⟨(([] : List (S121))), (0), (by first | rfl | (simp; done) | (simp [*]; done)), H', ⟨Nat.le_refl _⟩, ⟨by first | exact Kd.R_nil _ _ _ _ _ | exact Kd.N_nil _ _ _ _ _ | exact Kd.V_nil _ _ _ _ _ | exact Kd.Q_nil _ _ _ _ _ | exact Kd.S_nil _ _ _ _ _⟩, ⟨by repeat (first | (with_reducible first | exact HB.out | apply below_alloc | apply pw_below_drewN | apply below_drew1) | exact HB.out)⟩⟩
  case round =>
   clear H'
   try clear p2
   try clear c3
   try clear c3b0
   try clear c3b1
   obtain ⟨x5_1, x16_1, rfl, HA, HK1, HO_5, HB⟩ := hrel
   cases gk with
   | zero => exact absurd HA.out (by simp [delta_Axis.l0])
   | succ k1 =>
    have H := HA.out
    clear HA
    simp only [delta_Axis.l0] at H
    by_cases c5 : x16_1 < (l0.length : Int)
    ·rw [if_pos c5] at H
     have c5b0 : decide (x16_1 < (l0.length : Int)) = true := decide_eq_true c5
     clear c5
     by_cases c6 : 0 ≤ x16_1
     ·rw [if_pos c6] at H
      have c6b0 : decide (0 ≤ x16_1) = true := decide_eq_true c6
      clear c6
      by_cases c7 : x16_1 < (l0.length : Int)
      ·rw [if_pos c7] at H
       have c7b0 : decide (x16_1 < (l0.length : Int)) = true := decide_eq_true c7
       clear c7
       by_cases c8 : ((rd_T95 l0 x16_1).f0) = 0
       ·rw [if_pos c8] at H
        have c8b0 : (((rd_T95 l0 x16_1).f0) == 0) = true := beq_iff_eq.mpr c8
        have c8b1 : (((rd_T95 l0 x16_1).f0) != 0) = false := bne_eq_false_iff_eq.mpr c8
        clear c8
        by_cases c9 : (wrap64 ((x5_1.length : Int) - 1)) ≥ 0
        ·rw [if_pos c9] at H
         have c9b0 : decide (0 ≤ (wrap64 ((x5_1.length : Int) - 1))) = true := decide_eq_true c9
         clear c9
         obtain ⟨ji10, hji10⟩ : ∃ j_ : Int, (wrap64 ((x5_1.length : Int) - 1)) = j_ := ⟨_, rfl⟩
         replace H : (if 0 ≤ (ji10) then (if (ji10) < (x5_1.length : Int) then (if ((rd_T121 x5_1 (ji10)).f0) = 0 then (delta_Axis.l0 k1 (x5_1.set ((ji10) : Int).toNat (⟨(rd_T121 x5_1 (ji10)).f0, wrap64 (((rd_T121 x5_1 (ji10)).f1) + ((rd_T95 l0 x16_1).f1))⟩ : S121)) l0 (l0.length : Int) (wrap64 (x16_1 + 1))) else ((delta_size.f ((rd_T95 l0 x16_1).f0) ((rd_T95 l0 x16_1).f1) ((rd_T95 l0 x16_1).f2) ((rd_T95 l0 x16_1).f3)).bind fun t450 => (if x5_1.length < 8796093022208 then (delta_Axis.l0 k1 (x5_1 ++ [(⟨(rd_T95 l0 x16_1).f0, t450⟩ : S121)]) l0 (l0.length : Int) (wrap64 (x16_1 + 1))) else (none)))) else (none)) else (none)) = some (r1, r2) := by first | (rw [hji10] at H; exact H) | (simp only [hji10] at H ⊢; exact H)
         (try rw [hji10] at c9b0)
         have hji10w : (IntKind.i64.wrap ((x5_1.length : Int) - 1)) = ji10 := (i64_w _).trans hji10
         by_cases c11 : 0 ≤ (ji10)
         ·rw [if_pos c11] at H
          have c11b0 : decide (0 ≤ (ji10)) = true := decide_eq_true c11
          clear c11
          by_cases c12 : (ji10) < (x5_1.length : Int)
          ·rw [if_pos c12] at H
           have c12b0 : decide ((ji10) < (x5_1.length : Int)) = true := decide_eq_true c12
           clear c12
           by_cases c13 : ((rd_T121 x5_1 (ji10)).f0) = 0
           ·rw [if_pos c13] at H
            have c13b0 : (((rd_T121 x5_1 (ji10)).f0) == 0) = true := beq_iff_eq.mpr c13
            have c13b1 : (((rd_T121 x5_1 (ji10)).f0) != 0) = false := bne_eq_false_iff_eq.mpr c13
            clear c13
            obtain ⟨y449, hy449⟩ : ∃ y_ : List (S121), y_ = (x5_1.set ((ji10) : Int).toNat (⟨(rd_T121 x5_1 (ji10)).f0, wrap64 (((rd_T121 x5_1 (ji10)).f1) + ((rd_T95 l0 x16_1).f1))⟩ : S121)) := ⟨_, rfl⟩
            replace H : (delta_Axis.l0 k1 y449 l0 (l0.length : Int) (wrap64 (x16_1 + 1))) = some (r1, r2) := by first | (rw [hy449]; with_reducible exact H) | (have H2_ := (Option.bind_some _ _).symm.trans H; rw [hy449]; with_reducible exact H2_) | (have H2_ := (Option.bind_some _ _).symm.trans H; with_reducible exact H2_) | with_reducible exact H | (rw [hy449]; exact H) | exact H
            have Ny449 := Aside0.mk hy449
            clear hy449
            have H' := Aside0.mk H
            clear H
            have p445 : 0 ≤ (x16_1 : Int) := of_decide_eq_true (by assumption)
            have q445 : x16_1 < (l0.length : Int) := of_decide_eq_true (by assumption)
            obtain ⟨ad445, A445_2, c445_2, A445_3, c445_3, e445, hx445_0, hx445_1, hx445_2, hx445_3, hl445_2, hi445_2, hl445_3, hi445_3⟩ := at_T95 HR0.out x16_1 p445 q445
            cases e445
            replace hx445_0 := (HB.out.cell (World.block_lt_of_cell? w _ hx445_0)).trans hx445_0
            replace hx445_1 := (HB.out.cell (World.block_lt_of_cell? w _ hx445_1)).trans hx445_1
            replace hx445_2 := (HB.out.cell (World.block_lt_of_cell? w _ hx445_2)).trans hx445_2
            replace hx445_3 := (HB.out.cell (World.block_lt_of_cell? w _ hx445_3)).trans hx445_3
            have HR445_2 := Aside0.mk hi445_2
            have HC445_2 := Aside0.mk hl445_2
            clear hi445_2 hl445_2
            have HR445_3 := Aside0.mk hi445_3
            have HC445_3 := Aside0.mk hl445_3
            clear hi445_3 hl445_3
            replace p445 := eq_true p445
            replace q445 := eq_true q445
            try go_wp2_with (first | ((with_reducible refine gate_dst (N := 7) rfl ?_); refine box_event ?hg (N := 7) ?hd (cs := #[.int .i64 0, .int .i64 0, .slice none 0 0, .slice none 0 0]) (t := 95) ?hr ?_; (case hd => rfl); (case hg => rfl); (case hr => first | (go_simp; done) | (go_simp; rfl)); intro gb446 hg w15 hbox hb; have n0_ := Aside0.mk (Kd.R_below (by (with_reducible repeat (first | apply Kd.R_alloc | apply Kd.R_drewN | apply Kd.R_drew)); exact HO_5.out) hb); have n1_ := Aside0.mk (below_step (by with_reducible repeat first | exact HB.out | apply below_alloc | apply pw_below_drewN | apply below_drew1) hb); have n2_ := Aside0.mk (hbox); have n3_ := Aside0.mk ((by rw [hg]; exact (below_size (by with_reducible repeat first | exact HB.out | apply below_alloc | apply pw_below_drewN | apply below_drew1)) : w.heap.size ≤ gb446)); have n4_ := Aside0.mk ((by rw [hg]; exact (below_size (by with_reducible repeat first | exact HB.out | apply below_alloc | apply pw_below_drewN | apply below_drew1)) : w.heap.size ≤ gb446)); clear HO_5; clear HB; have HO_5 := n0_; have HB := n1_; have BK446 := n2_; have GW446 := n3_; have GE446 := n4_; clear n0_ n1_ n2_ n3_ n4_; clear hb hbox hg; have hcz16_0 : w15.cell? ⟨gb446, 0, none⟩ = some (.int .i64 0) := (blk_cell BK446.out 0).trans rfl; have hcz16_1 : w15.cell? ⟨gb446, 1, none⟩ = some (.int .i64 0) := (blk_cell BK446.out 1).trans rfl; have hcz16_2 : w15.cell? ⟨gb446, 2, none⟩ = some (.slice none 0 0) := (blk_cell BK446.out 2).trans rfl; have hcz16_3 : w15.cell? ⟨gb446, 3, none⟩ = some (.slice none 0 0) := (blk_cell BK446.out 3).trans rfl; have hfz16_0 := blk_frozen BK446.out 0; have hfz16_1 := blk_frozen BK446.out 1; have hfz16_2 := blk_frozen BK446.out 2; have hfz16_3 := blk_frozen BK446.out 3; obtain ⟨Ao17, co17, eo17⟩ := Kd.R_slice HO_5.out; subst eo17; have p447 : 0 ≤ ((ji10) : Int) := of_decide_eq_true (by assumption); have q447 : (ji10) < (x5_1.length : Int) := of_decide_eq_true (by assumption); obtain ⟨ad447, e447, hx447_0, hx447_1⟩ := at_T121 (Kd.R_reads' HO_5.out).2.2 (ji10) p447 q447; cases e447; have hn447_0 : ad447.block ≠ gb446 := Kd.own_blk (Kd.R_ne HO_5.out BK446.out (by decide)); have hn447_1 : ad447.block ≠ gb446 := Kd.own_blk (Kd.R_ne HO_5.out BK446.out (by decide)); have hn447_2 : ad447.block ≠ gb446 := Kd.own_blk (Kd.R_ne HO_5.out BK446.out (by decide)); have hn447_3 : ad447.block ≠ gb446 := Kd.own_blk (Kd.R_ne HO_5.out BK446.out (by decide)); replace hx447_0 := (cell_far (p := ⟨gb446, 0, none⟩) (by first | (rw [add_block]; exact hn447_0) | (show (Addr.add _ _).block ≠ _; rw [add_block]; exact hn447_0) | exact hn447_0) (.int .i64 ((rd_T95 l0 x16_1).f0))).trans hx447_0; replace hx447_1 := (cell_far (p := ⟨gb446, 0, none⟩) (by first | (rw [add_block]; exact hn447_0) | (show (Addr.add _ _).block ≠ _; rw [add_block]; exact hn447_0) | exact hn447_0) (.int .i64 ((rd_T95 l0 x16_1).f0))).trans hx447_1; replace hx447_0 := (cell_far (p := ⟨gb446, 1, none⟩) (by first | (rw [add_block]; exact hn447_1) | (show (Addr.add _ _).block ≠ _; rw [add_block]; exact hn447_1) | exact hn447_1) (.int .i64 ((rd_T95 l0 x16_1).f1))).trans hx447_0; replace hx447_1 := (cell_far (p := ⟨gb446, 1, none⟩) (by first | (rw [add_block]; exact hn447_1) | (show (Addr.add _ _).block ≠ _; rw [add_block]; exact hn447_1) | exact hn447_1) (.int .i64 ((rd_T95 l0 x16_1).f1))).trans hx447_1; replace hx447_0 := (cell_far (p := ⟨gb446, 2, none⟩) (by first | (rw [add_block]; exact hn447_2) | (show (Addr.add _ _).block ≠ _; rw [add_block]; exact hn447_2) | exact hn447_2) (.slice A445_2 ((rd_T95 l0 x16_1).f2).length c445_2)).trans hx447_0; replace hx447_1 := (cell_far (p := ⟨gb446, 2, none⟩) (by first | (rw [add_block]; exact hn447_2) | (show (Addr.add _ _).block ≠ _; rw [add_block]; exact hn447_2) | exact hn447_2) (.slice A445_2 ((rd_T95 l0 x16_1).f2).length c445_2)).trans hx447_1; replace hx447_0 := (cell_far (p := ⟨gb446, 3, none⟩) (by first | (rw [add_block]; exact hn447_3) | (show (Addr.add _ _).block ≠ _; rw [add_block]; exact hn447_3) | exact hn447_3) (.slice A445_3 ((rd_T95 l0 x16_1).f3).length c445_3)).trans hx447_0; replace hx447_1 := (cell_far (p := ⟨gb446, 3, none⟩) (by first | (rw [add_block]; exact hn447_3) | (show (Addr.add _ _).block ≠ _; rw [add_block]; exact hn447_3) | exact hn447_3) (.slice A445_3 ((rd_T95 l0 x16_1).f3).length c445_3)).trans hx447_1; clear hn447_0; clear hn447_1; clear hn447_2; clear hn447_3; replace p447 := eq_true p447; replace q447 := eq_true q447))
            have n0_ : Aside0 (Kd.R k121 121 ((((w15.setCell ⟨gb446, 0, none⟩ (.int .i64 ((rd_T95 l0 x16_1).f0))).setCell ⟨gb446, 1, none⟩ (.int .i64 ((rd_T95 l0 x16_1).f1))).setCell ⟨gb446, 2, none⟩ (.slice A445_2 ((rd_T95 l0 x16_1).f2).length c445_2)).setCell ⟨gb446, 3, none⟩ (.slice A445_3 ((rd_T95 l0 x16_1).f3).length c445_3)) w.heap.size (fun _ => True) (.slice (some ad447) x5_1.length co17) x5_1) := ⟨by (with_reducible repeat (first | apply Kd.R_alloc | apply Kd.R_drewN | apply Kd.R_drew)); exact Kd.R_mono (Kd.R_far (p := ⟨gb446, 3, none⟩) (Kd.R_far (p := ⟨gb446, 2, none⟩) (Kd.R_far (p := ⟨gb446, 1, none⟩) (Kd.R_far (p := ⟨gb446, 0, none⟩) (Kd.R_types HO_5.out BK446.out (by decide)) (fun _ hk => hk.2) (.int .i64 ((rd_T95 l0 x16_1).f0))) (fun _ hk => hk.2) (.int .i64 ((rd_T95 l0 x16_1).f1))) (fun _ hk => hk.2) (.slice A445_2 ((rd_T95 l0 x16_1).f2).length c445_2)) (fun _ hk => hk.2) (.slice A445_3 ((rd_T95 l0 x16_1).f3).length c445_3)) (fun _ hk => trivial)⟩
            have n1_ : Aside0 (((((w15.setCell ⟨gb446, 0, none⟩ (.int .i64 ((rd_T95 l0 x16_1).f0))).setCell ⟨gb446, 1, none⟩ (.int .i64 ((rd_T95 l0 x16_1).f1))).setCell ⟨gb446, 2, none⟩ (.slice A445_2 ((rd_T95 l0 x16_1).f2).length c445_2)).setCell ⟨gb446, 3, none⟩ (.slice A445_3 ((rd_T95 l0 x16_1).f3).length c445_3)).heap[gb446]? = some (.cells #[.int .i64 ((rd_T95 l0 x16_1).f0), .int .i64 ((rd_T95 l0 x16_1).f1), .slice A445_2 ((rd_T95 l0 x16_1).f2).length c445_2, .slice A445_3 ((rd_T95 l0 x16_1).f3).length c445_3] 95 (0, 0))) := ⟨by (with_reducible repeat (first | refine blk_drewN ?_ _ | refine blk_drew ?_ | refine blk_alloc ?_ _)); refine blk_put (cs := #[.int .i64 ((rd_T95 l0 x16_1).f0), .int .i64 ((rd_T95 l0 x16_1).f1), .slice A445_2 ((rd_T95 l0 x16_1).f2).length c445_2, .slice none 0 0]) ?_ 3 _ rfl; (with_reducible repeat (first | refine blk_drewN ?_ _ | refine blk_drew ?_ | refine blk_alloc ?_ _)); refine blk_put (cs := #[.int .i64 ((rd_T95 l0 x16_1).f0), .int .i64 ((rd_T95 l0 x16_1).f1), .slice none 0 0, .slice none 0 0]) ?_ 2 _ rfl; (with_reducible repeat (first | refine blk_drewN ?_ _ | refine blk_drew ?_ | refine blk_alloc ?_ _)); refine blk_put (cs := #[.int .i64 ((rd_T95 l0 x16_1).f0), .int .i64 0, .slice none 0 0, .slice none 0 0]) ?_ 1 _ rfl; (with_reducible repeat (first | refine blk_drewN ?_ _ | refine blk_drew ?_ | refine blk_alloc ?_ _)); refine blk_put (cs := #[.int .i64 0, .int .i64 0, .slice none 0 0, .slice none 0 0]) ?_ 0 _ rfl; (with_reducible repeat (first | refine blk_drewN ?_ _ | refine blk_drew ?_ | refine blk_alloc ?_ _)); exact BK446.out⟩
            have n2_ : Aside0 (Below w.heap.size w ((((w15.setCell ⟨gb446, 0, none⟩ (.int .i64 ((rd_T95 l0 x16_1).f0))).setCell ⟨gb446, 1, none⟩ (.int .i64 ((rd_T95 l0 x16_1).f1))).setCell ⟨gb446, 2, none⟩ (.slice A445_2 ((rd_T95 l0 x16_1).f2).length c445_2)).setCell ⟨gb446, 3, none⟩ (.slice A445_3 ((rd_T95 l0 x16_1).f3).length c445_3))) := ⟨by repeat (first | (with_reducible first | exact HB.out | apply below_alloc | apply pw_below_drewN | apply below_drew1 | refine below_set ?_ GE446.out) | exact HB.out)⟩
            (try clear HO_5)
            (try clear BK446)
            (try clear HB)
            generalize ((((w15.setCell ⟨gb446, 0, none⟩ (.int .i64 ((rd_T95 l0 x16_1).f0))).setCell ⟨gb446, 1, none⟩ (.int .i64 ((rd_T95 l0 x16_1).f1))).setCell ⟨gb446, 2, none⟩ (.slice A445_2 ((rd_T95 l0 x16_1).f2).length c445_2)).setCell ⟨gb446, 3, none⟩ (.slice A445_3 ((rd_T95 l0 x16_1).f3).length c445_3)) = w18 at n0_ n1_ n2_ ⊢
            have HO_5 := n0_
            have BK446 := n1_
            have HB := n2_
            clear n0_ n1_ n2_
            have n0_ := Aside0.mk (Kd.R_drew HO_5.out)
            have n1_ := Aside0.mk (blk_drew BK446.out)
            have n2_ := Aside0.mk (below_drew1 HB.out)
            clear HO_5
            clear BK446
            clear HB
            have HO_5 := n0_
            have BK446 := n1_
            have HB := n2_
            clear n0_ n1_ n2_
            have p448 : 0 ≤ ((ji10) : Int) := of_decide_eq_true (by assumption)
            have q448 : (ji10) < (x5_1.length : Int) := of_decide_eq_true (by assumption)
            obtain ⟨ad448, e448, hx448_0, hx448_1⟩ := at_T121 (Kd.R_reads' HO_5.out).2.2 (ji10) p448 q448
            obtain rfl : ad447 = ad448 := (by injection e448)
            replace p448 := eq_true p448
            replace q448 := eq_true q448
            have p14 : 0 ≤ ((ji10) : Int) := of_decide_eq_true (by assumption)
            have q14 : ((ji10) : Int) < ((x5_1.length : Int) : Int) := of_decide_eq_true (by assumption)
            obtain ⟨go14, co14, eo14, gb14, gl14, cl14, HG14⟩ := Kd.R_form HO_5.out (by omega)
            (first | cases eo14 | (injection eo14 with ea_ en_ ec_; (first | subst ea_ | (injection ea_ with ea_; subst ea_)); subst ec_; clear en_))
            have GB14 := Aside0.mk gb14
            have GG14 := Aside0.mk HG14
            clear gb14 gl14 HG14
            (first | simp only [add_plain] at hx447_0 | skip)
            (first | simp only [add_plain] at hx447_1 | skip)
            (first | simp only [add_plain] at hx448_0 | skip)
            (first | simp only [add_plain] at hx448_1 | skip)
            obtain ⟨ce14, hcl14, hM14, hcc14, hfr14⟩ := Kd.R_elem HO_5.out z121 ((ji10) : Int) p14 q14
            obtain rfl := k121_openM hM14
            have hx14_0 : World.cell? _ ⟨go14, ((ji10) : Int).toNat * 2, none⟩ = some (.int .i64 ((rd_T121 x5_1 (ji10)).f0)) := hcc14 0 _ rfl
            have hx14_1 : World.cell? _ ⟨go14, ((ji10) : Int).toNat * 2 + 1, none⟩ = some (.int .i64 ((rd_T121 x5_1 (ji10)).f1)) := hcc14 1 _ rfl
            have hf14_0 : World.frozen? _ ⟨go14, ((ji10) : Int).toNat * 2, none⟩ = false := hfr14 0
            have hf14_1 : World.frozen? _ ⟨go14, ((ji10) : Int).toNat * 2 + 1, none⟩ = false := hfr14 1
            clear hcl14 hcc14 hfr14 hM14
            replace p14 := eq_true p14
            replace q14 := eq_true q14
            obtain ⟨ce20, hcl20, hM20, hcc20, hfr20⟩ := Kd.R_elem HO_5.out z121 ((ji10) : Int) (of_decide_eq_true (by assumption)) (by have h_ : ((ji10) : Int) < ((x5_1.length : Int) : Int) := of_decide_eq_true (by assumption); first | exact h_ | (have e_ := (Kd.R_reads' HO_5.out).1; omega) | simpa using h_)
            obtain rfl := k121_openM hM20
            have HP20 := (Kd.R_seg HO_5.out ((ji10) : Int) (of_decide_eq_true (by assumption)) (by have h_ : ((ji10) : Int) < ((x5_1.length : Int) : Int) := of_decide_eq_true (by assumption); first | exact h_ | (have e_ := (Kd.R_reads' HO_5.out).1; omega) | simpa using h_) (seg := [.int .i64 (wrap64 (((rd_T121 x5_1 (ji10)).f1) + ((rd_T95 l0 x16_1).f1)))]) (j := 1) hcl20 hcc20 (show 2 ≤ 2 from by decide) (x' := (⟨(rd_T121 x5_1 (ji10)).f0, wrap64 (((rd_T121 x5_1 (ji10)).f1) + ((rd_T95 l0 x16_1).f1))⟩ : S121)) (k121_mkM _ _ _ (⟨(rd_T121 x5_1 (ji10)).f0, wrap64 (((rd_T121 x5_1 (ji10)).f1) + ((rd_T95 l0 x16_1).f1))⟩ : S121) ) (fun _ hk => hk)).1
            rw [← Ny449.out] at HP20
            have HQ20 := Aside0.mk HP20
            clear hcl20 hcc20 hfr20 hM20 HP20
            refine start_ (n := 11) (S := fun w' => w'.cell? ⟨gb446, 0, none⟩ = some (.int .i64 ((rd_T95 l0 x16_1).f0)) ∧ w'.cell? ⟨gb446, 1, none⟩ = some (.int .i64 ((rd_T95 l0 x16_1).f1)) ∧ w'.cell? ⟨gb446, 2, none⟩ = some (.slice A445_2 ((rd_T95 l0 x16_1).f2).length c445_2) ∧ w'.cell? ⟨gb446, 3, none⟩ = some (.slice A445_3 ((rd_T95 l0 x16_1).f3).length c445_3) ∧ w'.cell? ⟨go14, ((ji10)).toNat * 2, none⟩ = some (.int .i64 ((rd_T121 x5_1 (ji10)).f0)) ∧ w'.cell? ⟨go14, ((ji10)).toNat * 2 + 1, none⟩ = some (.int .i64 ((rd_T121 x5_1 (ji10)).f1))) (ds := [10]) #[false, false, false, false, false, false, false, false, false, false, false] (by kernel_rfl) rfl rfl ⟨(blk_cell BK446.out 0).trans rfl, (blk_cell BK446.out 1).trans rfl, (blk_cell BK446.out 2).trans rfl, (blk_cell BK446.out 3).trans rfl, hx448_0, hx448_1⟩ (fun hHeld => ?_); refine with_tabW delta_Axis.tab10 delta_Axis.bits10 (fun HT_ HW_ => ?_)
            generalize w18.drew = w19 at HO_5 BK446 HB GG14 HQ20 hf14_0 hf14_1 hx14_0 hx14_1 hx447_0 hx447_1 hx448_0 hx448_1 hHeld ⊢
            refine pure_ (i := 0) (N := some 38) (v := ?_) (a' := ?_) (bm 1 11) rfl rfl (any_of HT_.out (by kernel_rfl)) (fun _ _ _ h => h) (Or.inl ⟨by rfl, ?_⟩) ?_ ?_
            rotate_left
            ·intro w'
             go_simp
             with_reducible rfl
            rotate_left
            ·simp only [Act.put, sA, sB, sC, i64_w, i32_w]
             rfl
            refine pure_ (i := 1) (N := some 39) (v := ?_) (a' := ?_) (bm 3 11) rfl rfl (any_of HT_.out (by kernel_rfl)) (fun _ _ _ h => h) (Or.inl ⟨by rfl, ?_⟩) ?_ ?_
            rotate_left
            ·intro w'
             go_simp
             with_reducible rfl
            rotate_left
            ·simp only [Act.put, sA, sB, sC, i64_w, i32_w]
             rfl
            refine pure_ (i := 2) (N := some 40) (v := ?_) (a' := ?_) (bm 7 11) rfl rfl (any_of HT_.out (by kernel_rfl)) (fun _ _ _ h => h) (Or.inl ⟨by rfl, ?_⟩) ?_ ?_
            rotate_left
            ·intro w'
             go_simp
             with_reducible rfl
            rotate_left
            ·simp only [Act.put, sA, sB, sC, i64_w, i32_w]
             rfl
            refine pure_ (i := 3) (N := some 41) (v := ?_) (a' := ?_) (bm 15 11) rfl rfl (any_of HT_.out (by kernel_rfl)) (fun _ _ _ h => h) (Or.inl ⟨by rfl, ?_⟩) ?_ ?_
            rotate_left
            ·intro w'
             go_simp
             with_reducible rfl
            rotate_left
            ·simp only [Act.put, sA, sB, sC, i64_w, i32_w]
             rfl
            refine pure_ (i := 5) (N := some 43) (v := ?_) (a' := ?_) (bm 47 11) rfl rfl (any_of HT_.out (by kernel_rfl)) (fun _ _ _ h => h) (Or.inl ⟨by rfl, ?_⟩) ?_ ?_
            rotate_left
            ·intro w'
             go_simp
             with_reducible rfl
            rotate_left
            ·simp only [Act.put, sA, sB, sC, i64_w, i32_w]
             rfl
            refine take_ (i := 4) (N := some 42) (v := ?_) (a' := ?_) (bm 63 11) rfl rfl (take_ofW HT_.out HW_.out (by kernel_rfl)) (fun _ _ _ h => h) (Or.inl ⟨by rfl, ?_⟩) hHeld ?_ ?_
            rotate_left
            ·rintro w' ⟨s0, s1, s2, s3, s4, s5⟩
             go_simp
             with_reducible rfl
            rotate_left
            ·simp only [Act.put, sA, sB, sC, i64_w, i32_w]
             rfl
            refine take_ (i := 6) (N := some 44) (v := ?_) (a' := ?_) (bm 127 11) rfl rfl (take_ofW HT_.out HW_.out (by kernel_rfl)) (fun _ _ _ h => h) (Or.inl ⟨by rfl, ?_⟩) hHeld ?_ ?_
            rotate_left
            ·rintro w' ⟨s0, s1, s2, s3, s4, s5⟩
             go_simp
             with_reducible rfl
            rotate_left
            ·simp only [Act.put, sA, sB, sC, i64_w, i32_w]
             rfl
            refine pure_ (i := 7) (N := some 45) (v := ?_) (a' := ?_) (bm 255 11) rfl rfl (any_of HT_.out (by kernel_rfl)) (fun _ _ _ h => h) (Or.inl ⟨by rfl, ?_⟩) ?_ ?_
            rotate_left
            ·intro w'
             go_simp
             with_reducible rfl
            rotate_left
            ·simp only [Act.put, sA, sB, sC, i64_w, i32_w]
             rfl
            refine pure_ (i := 8) (N := some 46) (v := ?_) (a' := ?_) (bm 511 11) rfl rfl (any_of HT_.out (by kernel_rfl)) (fun _ _ _ h => h) (Or.inl ⟨by rfl, ?_⟩) ?_ ?_
            rotate_left
            ·intro w'
             go_simp
             with_reducible rfl
            rotate_left
            ·simp only [Act.put, sA, sB, sC, i64_w, i32_w]
             rfl
            refine pure_ (i := 9) (N := some 47) (v := ?_) (a' := ?_) (bm 1023 11) rfl rfl (any_of HT_.out (by kernel_rfl)) (fun _ _ _ h => h) (Or.inl ⟨by rfl, ?_⟩) ?_ ?_
            rotate_left
            ·intro w'
             go_simp
             with_reducible rfl
            rotate_left
            ·simp only [Act.put, sA, sB, sC, i64_w, i32_w]
             rfl
            refine last_ (i := 10) (N := none) (bm 2047 11) rfl rfl (one_of HT_.out (by kernel_rfl)) (by decide) (fun K hK => ?_)
            refine skip_ (w1 := ?_) (by rfl) rfl ?_ ?_
            rotate_left
            ·go_simp
             rfl
            refine hK.out _ _ ?_
            clear hK K
            refine done_ (done_of HT_.out (by kernel_rfl)) ?_
            try go_wp2
            go_roundg k1
            case measure => have := HK1.out; omega
            case rel => exact ⟨(y449), (wrap64 (x16_1 + 1)), (by first | rfl | (simp; done) | (simp [*]; done)), H', ⟨by have := HK1.out; omega⟩, ⟨by (with_reducible repeat (first | apply Kd.R_alloc | apply Kd.R_drewN | apply Kd.R_drew)); exact HQ20.out⟩, ⟨by repeat (first | (with_reducible first | exact HB.out | apply below_alloc | apply pw_below_drewN | apply below_drew1 | refine below_set ?_ GB14.out | refine below_set ?_ GE446.out) | exact HB.out)⟩⟩
           ·rw [if_neg c13] at H
            have c13b0 : (((rd_T121 x5_1 (ji10)).f0) == 0) = false := beq_eq_false_iff_ne.mpr c13
            have c13b1 : (((rd_T121 x5_1 (ji10)).f0) != 0) = true := bne_iff_ne.mpr c13
            replace H := Option.bind_eq_some_iff.mp H
            obtain ⟨t450, A210, H⟩ := H
            replace H : (if x5_1.length < 8796093022208 then (delta_Axis.l0 k1 (x5_1 ++ [(⟨(rd_T95 l0 x16_1).f0, t450⟩ : S121)]) l0 (l0.length : Int) (wrap64 (x16_1 + 1))) else (none)) = some (r1, r2) := H
            have A21 := Aside0.mk A210
            clear A210
            by_cases c22 : x5_1.length < 8796093022208
            ·rw [if_pos c22] at H
             have LMc22 := Aside0.mk c22
             clear c22
             obtain ⟨y451, hy451⟩ : ∃ y_ : List (S121), y_ = (x5_1 ++ [(⟨(rd_T95 l0 x16_1).f0, t450⟩ : S121)]) := ⟨_, rfl⟩
             replace H : (delta_Axis.l0 k1 y451 l0 (l0.length : Int) (wrap64 (x16_1 + 1))) = some (r1, r2) := by first | (rw [hy451]; with_reducible exact H) | (have H2_ := (Option.bind_some _ _).symm.trans H; rw [hy451]; with_reducible exact H2_) | (have H2_ := (Option.bind_some _ _).symm.trans H; with_reducible exact H2_) | with_reducible exact H | (rw [hy451]; exact H) | exact H
             have Ny451 := Aside0.mk hy451
             clear hy451
             have H' := Aside0.mk H
             clear H
             have p445 : 0 ≤ (x16_1 : Int) := of_decide_eq_true (by assumption)
             have q445 : x16_1 < (l0.length : Int) := of_decide_eq_true (by assumption)
             obtain ⟨ad445, A445_2, c445_2, A445_3, c445_3, e445, hx445_0, hx445_1, hx445_2, hx445_3, hl445_2, hi445_2, hl445_3, hi445_3⟩ := at_T95 HR0.out x16_1 p445 q445
             cases e445
             replace hx445_0 := (HB.out.cell (World.block_lt_of_cell? w _ hx445_0)).trans hx445_0
             replace hx445_1 := (HB.out.cell (World.block_lt_of_cell? w _ hx445_1)).trans hx445_1
             replace hx445_2 := (HB.out.cell (World.block_lt_of_cell? w _ hx445_2)).trans hx445_2
             replace hx445_3 := (HB.out.cell (World.block_lt_of_cell? w _ hx445_3)).trans hx445_3
             have HR445_2 := Aside0.mk hi445_2
             have HC445_2 := Aside0.mk hl445_2
             clear hi445_2 hl445_2
             have HR445_3 := Aside0.mk hi445_3
             have HC445_3 := Aside0.mk hl445_3
             clear hi445_3 hl445_3
             replace p445 := eq_true p445
             replace q445 := eq_true q445
             try go_wp2_with (first | ((with_reducible refine gate_dst (N := 7) rfl ?_); refine box_event ?hg (N := 7) ?hd (cs := #[.int .i64 0, .int .i64 0, .slice none 0 0, .slice none 0 0]) (t := 95) ?hr ?_; (case hd => rfl); (case hg => rfl); (case hr => first | (go_simp; done) | (go_simp; rfl)); intro gb446 hg w23 hbox hb; have n0_ := Aside0.mk (Kd.R_below (by (with_reducible repeat (first | apply Kd.R_alloc | apply Kd.R_drewN | apply Kd.R_drew)); exact HO_5.out) hb); have n1_ := Aside0.mk (below_step (by with_reducible repeat first | exact HB.out | apply below_alloc | apply pw_below_drewN | apply below_drew1) hb); have n2_ := Aside0.mk (hbox); have n3_ := Aside0.mk ((by rw [hg]; exact (below_size (by with_reducible repeat first | exact HB.out | apply below_alloc | apply pw_below_drewN | apply below_drew1)) : w.heap.size ≤ gb446)); have n4_ := Aside0.mk ((by rw [hg]; exact (below_size (by with_reducible repeat first | exact HB.out | apply below_alloc | apply pw_below_drewN | apply below_drew1)) : w.heap.size ≤ gb446)); clear HO_5; clear HB; have HO_5 := n0_; have HB := n1_; have BK446 := n2_; have GW446 := n3_; have GE446 := n4_; clear n0_ n1_ n2_ n3_ n4_; clear hb hbox hg; have hcz24_0 : w23.cell? ⟨gb446, 0, none⟩ = some (.int .i64 0) := (blk_cell BK446.out 0).trans rfl; have hcz24_1 : w23.cell? ⟨gb446, 1, none⟩ = some (.int .i64 0) := (blk_cell BK446.out 1).trans rfl; have hcz24_2 : w23.cell? ⟨gb446, 2, none⟩ = some (.slice none 0 0) := (blk_cell BK446.out 2).trans rfl; have hcz24_3 : w23.cell? ⟨gb446, 3, none⟩ = some (.slice none 0 0) := (blk_cell BK446.out 3).trans rfl; have hfz24_0 := blk_frozen BK446.out 0; have hfz24_1 := blk_frozen BK446.out 1; have hfz24_2 := blk_frozen BK446.out 2; have hfz24_3 := blk_frozen BK446.out 3; obtain ⟨Ao25, co25, eo25⟩ := Kd.R_slice HO_5.out; subst eo25; have p447 : 0 ≤ ((ji10) : Int) := of_decide_eq_true (by assumption); have q447 : (ji10) < (x5_1.length : Int) := of_decide_eq_true (by assumption); obtain ⟨ad447, e447, hx447_0, hx447_1⟩ := at_T121 (Kd.R_reads' HO_5.out).2.2 (ji10) p447 q447; cases e447; have hn447_0 : ad447.block ≠ gb446 := Kd.own_blk (Kd.R_ne HO_5.out BK446.out (by decide)); have hn447_1 : ad447.block ≠ gb446 := Kd.own_blk (Kd.R_ne HO_5.out BK446.out (by decide)); have hn447_2 : ad447.block ≠ gb446 := Kd.own_blk (Kd.R_ne HO_5.out BK446.out (by decide)); have hn447_3 : ad447.block ≠ gb446 := Kd.own_blk (Kd.R_ne HO_5.out BK446.out (by decide)); replace hx447_0 := (cell_far (p := ⟨gb446, 0, none⟩) (by first | (rw [add_block]; exact hn447_0) | (show (Addr.add _ _).block ≠ _; rw [add_block]; exact hn447_0) | exact hn447_0) (.int .i64 ((rd_T95 l0 x16_1).f0))).trans hx447_0; replace hx447_1 := (cell_far (p := ⟨gb446, 0, none⟩) (by first | (rw [add_block]; exact hn447_0) | (show (Addr.add _ _).block ≠ _; rw [add_block]; exact hn447_0) | exact hn447_0) (.int .i64 ((rd_T95 l0 x16_1).f0))).trans hx447_1; replace hx447_0 := (cell_far (p := ⟨gb446, 1, none⟩) (by first | (rw [add_block]; exact hn447_1) | (show (Addr.add _ _).block ≠ _; rw [add_block]; exact hn447_1) | exact hn447_1) (.int .i64 ((rd_T95 l0 x16_1).f1))).trans hx447_0; replace hx447_1 := (cell_far (p := ⟨gb446, 1, none⟩) (by first | (rw [add_block]; exact hn447_1) | (show (Addr.add _ _).block ≠ _; rw [add_block]; exact hn447_1) | exact hn447_1) (.int .i64 ((rd_T95 l0 x16_1).f1))).trans hx447_1; replace hx447_0 := (cell_far (p := ⟨gb446, 2, none⟩) (by first | (rw [add_block]; exact hn447_2) | (show (Addr.add _ _).block ≠ _; rw [add_block]; exact hn447_2) | exact hn447_2) (.slice A445_2 ((rd_T95 l0 x16_1).f2).length c445_2)).trans hx447_0; replace hx447_1 := (cell_far (p := ⟨gb446, 2, none⟩) (by first | (rw [add_block]; exact hn447_2) | (show (Addr.add _ _).block ≠ _; rw [add_block]; exact hn447_2) | exact hn447_2) (.slice A445_2 ((rd_T95 l0 x16_1).f2).length c445_2)).trans hx447_1; replace hx447_0 := (cell_far (p := ⟨gb446, 3, none⟩) (by first | (rw [add_block]; exact hn447_3) | (show (Addr.add _ _).block ≠ _; rw [add_block]; exact hn447_3) | exact hn447_3) (.slice A445_3 ((rd_T95 l0 x16_1).f3).length c445_3)).trans hx447_0; replace hx447_1 := (cell_far (p := ⟨gb446, 3, none⟩) (by first | (rw [add_block]; exact hn447_3) | (show (Addr.add _ _).block ≠ _; rw [add_block]; exact hn447_3) | exact hn447_3) (.slice A445_3 ((rd_T95 l0 x16_1).f3).length c445_3)).trans hx447_1; clear hn447_0; clear hn447_1; clear hn447_2; clear hn447_3; replace p447 := eq_true p447; replace q447 := eq_true q447))
             have n0_ : Aside0 (Kd.R k121 121 ((((w23.setCell ⟨gb446, 0, none⟩ (.int .i64 ((rd_T95 l0 x16_1).f0))).setCell ⟨gb446, 1, none⟩ (.int .i64 ((rd_T95 l0 x16_1).f1))).setCell ⟨gb446, 2, none⟩ (.slice A445_2 ((rd_T95 l0 x16_1).f2).length c445_2)).setCell ⟨gb446, 3, none⟩ (.slice A445_3 ((rd_T95 l0 x16_1).f3).length c445_3)) w.heap.size (fun _ => True) (.slice (some ad447) x5_1.length co25) x5_1) := ⟨by (with_reducible repeat (first | apply Kd.R_alloc | apply Kd.R_drewN | apply Kd.R_drew)); exact Kd.R_mono (Kd.R_far (p := ⟨gb446, 3, none⟩) (Kd.R_far (p := ⟨gb446, 2, none⟩) (Kd.R_far (p := ⟨gb446, 1, none⟩) (Kd.R_far (p := ⟨gb446, 0, none⟩) (Kd.R_types HO_5.out BK446.out (by decide)) (fun _ hk => hk.2) (.int .i64 ((rd_T95 l0 x16_1).f0))) (fun _ hk => hk.2) (.int .i64 ((rd_T95 l0 x16_1).f1))) (fun _ hk => hk.2) (.slice A445_2 ((rd_T95 l0 x16_1).f2).length c445_2)) (fun _ hk => hk.2) (.slice A445_3 ((rd_T95 l0 x16_1).f3).length c445_3)) (fun _ hk => trivial)⟩
             have n1_ : Aside0 (((((w23.setCell ⟨gb446, 0, none⟩ (.int .i64 ((rd_T95 l0 x16_1).f0))).setCell ⟨gb446, 1, none⟩ (.int .i64 ((rd_T95 l0 x16_1).f1))).setCell ⟨gb446, 2, none⟩ (.slice A445_2 ((rd_T95 l0 x16_1).f2).length c445_2)).setCell ⟨gb446, 3, none⟩ (.slice A445_3 ((rd_T95 l0 x16_1).f3).length c445_3)).heap[gb446]? = some (.cells #[.int .i64 ((rd_T95 l0 x16_1).f0), .int .i64 ((rd_T95 l0 x16_1).f1), .slice A445_2 ((rd_T95 l0 x16_1).f2).length c445_2, .slice A445_3 ((rd_T95 l0 x16_1).f3).length c445_3] 95 (0, 0))) := ⟨by (with_reducible repeat (first | refine blk_drewN ?_ _ | refine blk_drew ?_ | refine blk_alloc ?_ _)); refine blk_put (cs := #[.int .i64 ((rd_T95 l0 x16_1).f0), .int .i64 ((rd_T95 l0 x16_1).f1), .slice A445_2 ((rd_T95 l0 x16_1).f2).length c445_2, .slice none 0 0]) ?_ 3 _ rfl; (with_reducible repeat (first | refine blk_drewN ?_ _ | refine blk_drew ?_ | refine blk_alloc ?_ _)); refine blk_put (cs := #[.int .i64 ((rd_T95 l0 x16_1).f0), .int .i64 ((rd_T95 l0 x16_1).f1), .slice none 0 0, .slice none 0 0]) ?_ 2 _ rfl; (with_reducible repeat (first | refine blk_drewN ?_ _ | refine blk_drew ?_ | refine blk_alloc ?_ _)); refine blk_put (cs := #[.int .i64 ((rd_T95 l0 x16_1).f0), .int .i64 0, .slice none 0 0, .slice none 0 0]) ?_ 1 _ rfl; (with_reducible repeat (first | refine blk_drewN ?_ _ | refine blk_drew ?_ | refine blk_alloc ?_ _)); refine blk_put (cs := #[.int .i64 0, .int .i64 0, .slice none 0 0, .slice none 0 0]) ?_ 0 _ rfl; (with_reducible repeat (first | refine blk_drewN ?_ _ | refine blk_drew ?_ | refine blk_alloc ?_ _)); exact BK446.out⟩
             have n2_ : Aside0 (Below w.heap.size w ((((w23.setCell ⟨gb446, 0, none⟩ (.int .i64 ((rd_T95 l0 x16_1).f0))).setCell ⟨gb446, 1, none⟩ (.int .i64 ((rd_T95 l0 x16_1).f1))).setCell ⟨gb446, 2, none⟩ (.slice A445_2 ((rd_T95 l0 x16_1).f2).length c445_2)).setCell ⟨gb446, 3, none⟩ (.slice A445_3 ((rd_T95 l0 x16_1).f3).length c445_3))) := ⟨by repeat (first | (with_reducible first | exact HB.out | apply below_alloc | apply pw_below_drewN | apply below_drew1 | refine below_set ?_ GE446.out) | exact HB.out)⟩
             (try clear HO_5)
             (try clear BK446)
             (try clear HB)
             generalize ((((w23.setCell ⟨gb446, 0, none⟩ (.int .i64 ((rd_T95 l0 x16_1).f0))).setCell ⟨gb446, 1, none⟩ (.int .i64 ((rd_T95 l0 x16_1).f1))).setCell ⟨gb446, 2, none⟩ (.slice A445_2 ((rd_T95 l0 x16_1).f2).length c445_2)).setCell ⟨gb446, 3, none⟩ (.slice A445_3 ((rd_T95 l0 x16_1).f3).length c445_3)) = w26 at n0_ n1_ n2_ ⊢
             have HO_5 := n0_
             have BK446 := n1_
             have HB := n2_
             clear n0_ n1_ n2_
             have n0_ := Aside0.mk (Kd.R_drew HO_5.out)
             have n1_ := Aside0.mk (blk_drew BK446.out)
             have n2_ := Aside0.mk (below_drew1 HB.out)
             clear HO_5
             clear BK446
             clear HB
             have HO_5 := n0_
             have BK446 := n1_
             have HB := n2_
             clear n0_ n1_ n2_
             refine start_ (n := 9) (S := fun w' => w'.cell? ⟨gb446, 0, none⟩ = some (.int .i64 ((rd_T95 l0 x16_1).f0)) ∧ w'.cell? ⟨gb446, 1, none⟩ = some (.int .i64 ((rd_T95 l0 x16_1).f1)) ∧ w'.cell? ⟨gb446, 2, none⟩ = some (.slice A445_2 ((rd_T95 l0 x16_1).f2).length c445_2) ∧ w'.cell? ⟨gb446, 3, none⟩ = some (.slice A445_3 ((rd_T95 l0 x16_1).f3).length c445_3)) (ds := []) #[false, false, false, false, false, false, false, false, false] (by kernel_rfl) rfl rfl ⟨(blk_cell BK446.out 0).trans rfl, (blk_cell BK446.out 1).trans rfl, (blk_cell BK446.out 2).trans rfl, (blk_cell BK446.out 3).trans rfl⟩ (fun hHeld => ?_); refine with_tabW delta_Axis.tab11 delta_Axis.bits11 (fun HT_ HW_ => ?_)
             generalize w26.drew = w27 at HO_5 BK446 HB hHeld ⊢
             refine pure_ (i := 0) (N := some 48) (v := ?_) (a' := ?_) (bm 1 9) rfl rfl (any_of HT_.out (by kernel_rfl)) (fun _ _ _ h => h) (Or.inl ⟨by rfl, ?_⟩) ?_ ?_
             rotate_left
             ·intro w'
              go_simp
              with_reducible rfl
             rotate_left
             ·simp only [Act.put, sA, sB, sC, i64_w, i32_w]
              rfl
             refine pure_ (i := 1) (N := some 49) (v := ?_) (a' := ?_) (bm 3 9) rfl rfl (any_of HT_.out (by kernel_rfl)) (fun _ _ _ h => h) (Or.inl ⟨by rfl, ?_⟩) ?_ ?_
             rotate_left
             ·intro w'
              go_simp
              with_reducible rfl
             rotate_left
             ·simp only [Act.put, sA, sB, sC, i64_w, i32_w]
              rfl
             refine take_ (i := 2) (N := some 50) (v := ?_) (a' := ?_) (bm 7 9) rfl rfl (take_ofW HT_.out HW_.out (by kernel_rfl)) (fun _ _ _ h => h) (Or.inl ⟨by rfl, ?_⟩) hHeld ?_ ?_
             rotate_left
             ·rintro w' ⟨s0, s1, s2, s3⟩
              go_simp
              with_reducible rfl
             rotate_left
             ·simp only [Act.put, sA, sB, sC, i64_w, i32_w]
              rfl
             refine take_ (i := 3) (N := some 51) (v := ?_) (a' := ?_) (bm 15 9) rfl rfl (take_ofW HT_.out HW_.out (by kernel_rfl)) (fun _ _ _ h => h) (Or.inl ⟨by rfl, ?_⟩) hHeld ?_ ?_
             rotate_left
             ·rintro w' ⟨s0, s1, s2, s3⟩
              go_simp
              with_reducible rfl
             rotate_left
             ·simp only [Act.put, sA, sB, sC, i64_w, i32_w]
              rfl
             refine one_ (i := 4) (N := some 52) (bm 31 9) rfl rfl (one_of HT_.out (by kernel_rfl)) (by decide) (fun K hK => ?_)
             refine goes_ Try.func68 (by kernel_rfl) rfl #[.agg #[.int .i64 ((rd_T95 l0 x16_1).f0), .int .i64 ((rd_T95 l0 x16_1).f1), .slice A445_2 ((rd_T95 l0 x16_1).f2).length c445_2, .slice A445_3 ((rd_T95 l0 x16_1).f3).length c445_3]] (by rfl) rfl rfl (by (try simp only [List.map_toArray, List.map_cons, List.map_nil]); first | done | rfl | (simp only [List.length_drop, List.length_take]; rfl)) ?_
             with_reducible refine (delta_size.calls ((rd_T95 l0 x16_1).f0) ((rd_T95 l0 x16_1).f1) _ _ ((rd_T95 l0 x16_1).f2) _ _ ((rd_T95 l0 x16_1).f3) t450 _ ?side1 ?side2 ?side3 ?side4 A21.out).mono ?_
             (case side1 => repeat (first | exact (Kd.C_below HR445_2.out HB.out) | (with_reducible refine Kd.C_alloc ?_ _) | (with_reducible refine Kd.C_drewN ?_ _) | (with_reducible refine Kd.C_drew ?_)))
             (case side2 => exact HC445_2.out)
             (case side3 => repeat (first | exact (Kd.C_below HR445_3.out HB.out) | (with_reducible refine Kd.C_alloc ?_ _) | (with_reducible refine Kd.C_drewN ?_ _) | (with_reducible refine Kd.C_drew ?_)))
             (case side4 => exact HC445_3.out)
             rintro e w28 ⟨rfl, hb⟩
             refine ⟨_, rfl, ?_⟩
             have n0_ := Aside0.mk (Kd.R_below (by (with_reducible repeat (first | apply Kd.R_alloc | apply Kd.R_drewN | apply Kd.R_drew)); exact HO_5.out) hb)
             have n1_ := Aside0.mk (blk_below (g := gb446) (o := .cells #[.int .i64 ((rd_T95 l0 x16_1).f0), .int .i64 ((rd_T95 l0 x16_1).f1), .slice A445_2 ((rd_T95 l0 x16_1).f2).length c445_2, .slice A445_3 ((rd_T95 l0 x16_1).f3).length c445_3] 95 (0, 0)) (by (with_reducible repeat (first | refine blk_drewN ?_ _ | refine blk_drew ?_ | refine blk_alloc ?_ _)); exact BK446.out) hb)
             have n2_ := Aside0.mk (below_step (by repeat (first | (with_reducible first | exact HB.out | apply below_alloc | apply pw_below_drewN | apply below_drew1 | refine below_set ?_ GE446.out) | exact HB.out)) hb)
             clear HO_5
             clear BK446
             clear HB
             have HO_5 := n0_
             have BK446 := n1_
             have HB := n2_
             clear n0_ n1_ n2_
             (try clear hb)
             (try clear hb2)
             (try clear hk)
             (try clear hi)
             refine hK.out _ _ ⟨(blk_cell BK446.out 0).trans rfl, (blk_cell BK446.out 1).trans rfl, (blk_cell BK446.out 2).trans rfl, (blk_cell BK446.out 3).trans rfl⟩ (fun hHeld => ?_)
             clear hK K
             refine norm_ (a' := ?_) ?_ ?_
             rotate_left
             ·show Act.put _ (some 52) _ = _
              simp only [Act.put, sA, sB, sC, i64_w, i32_w]
              rfl
             refine pure_ (i := 5) (N := some 53) (v := ?_) (a' := ?_) (bm 63 9) rfl rfl (any_of HT_.out (by kernel_rfl)) (fun _ _ _ h => h) (Or.inl ⟨by rfl, ?_⟩) ?_ ?_
             rotate_left
             ·intro w'
              go_simp
              with_reducible rfl
             rotate_left
             ·simp only [Act.put, sA, sB, sC, i64_w, i32_w]
              rfl
             refine one_ (i := 6) (N := some 54) (bm 127 9) rfl rfl (one_of HT_.out (by kernel_rfl)) (by decide) (fun K hK => ?_)
             refine value_ (w1 := ?_) (v := ?_) (by rfl) rfl ?_ ?_
             rotate_left 2
             ·go_simp
              constructor
              ·rfl
              ·rfl
             refine hK.out _ _ ⟨(blk_cell (blk_alloc BK446.out _) 0).trans rfl, (blk_cell (blk_alloc BK446.out _) 1).trans rfl, (blk_cell (blk_alloc BK446.out _) 2).trans rfl, (blk_cell (blk_alloc BK446.out _) 3).trans rfl⟩ (fun hHeld => ?_)
             clear hK K
             refine norm_ (a' := ?_) ?_ ?_
             rotate_left
             ·show Act.put _ (some 54) _ = _
              simp only [Act.put, sA, sB, sC, i64_w, i32_w]
              rfl
             refine one_ (i := 7) (N := some 55) (bm 255 9) rfl rfl (one_of HT_.out (by kernel_rfl)) (by decide) (fun K hK => ?_)
             refine Kd.R_append_step k121 (w0 := w) w.heap.size (by rfl) (.tmp 48) (.tmp 54) 59 121 (.agg #[(.int .i64 0), (.int .i64 0)]) 16 rfl Try.underlying59 info121 rfl (by decide) (by omega) (.slice (some ad447) x5_1.length co25) x5_1 (⟨(rd_T95 l0 x16_1).f0, t450⟩ : S121) [.int .i64 ((rd_T95 l0 x16_1).f0), .int .i64 t450] (fun _ => True) (fun _ => False) rfl rfl ?aP (fun _ hk => hk.elim) ?aF ?aO ?aB ?aS ?aL ?_
             (case aP => exact k121_mkM _ _ _ (⟨(rd_T95 l0 x16_1).f0, t450⟩ : S121))
             (case aB => exact (by repeat (first | (with_reducible first | exact HB.out | apply below_alloc | apply pw_below_drewN | apply below_drew1 | refine below_set ?_ GE446.out) | exact HB.out)))
             (case aF => exact (fun _ _ => trivial))
             (case aO => exact (by (with_reducible repeat (first | apply Kd.R_alloc | apply Kd.R_drewN | apply Kd.R_drew)); exact HO_5.out))
             (case aS => exact (below_size (by repeat (first | (with_reducible first | exact HB.out | apply below_alloc | apply pw_below_drewN | apply below_drew1 | refine below_set ?_ GE446.out) | exact HB.out))))
             (case aL => have := LMc22.out; omega)
             intro v452 w29 ho hb hg hat
             rw [← Ny451.out] at ho
             have n0_ := Aside0.mk (blk_grown (g := gb446) (o := .cells #[.int .i64 ((rd_T95 l0 x16_1).f0), .int .i64 ((rd_T95 l0 x16_1).f1), .slice A445_2 ((rd_T95 l0 x16_1).f2).length c445_2, .slice A445_3 ((rd_T95 l0 x16_1).f3).length c445_3] 95 (0, 0)) (by (with_reducible repeat (first | refine blk_drewN ?_ _ | refine blk_drew ?_ | refine blk_alloc ?_ _)); exact BK446.out) hg (Kd.R_ne HO_5.out BK446.out (by decide)))
             have n1_ := Aside0.mk (hb)
             have n2_ := Aside0.mk (ho)
             clear BK446
             clear HB
             clear HO_5
             have BK446 := n0_
             have HB := n1_
             have HO453 := n2_
             clear n0_ n1_ n2_
             clear ho hb hg hat
             refine hK.out _ _ ⟨(blk_cell BK446.out 0).trans rfl, (blk_cell BK446.out 1).trans rfl, (blk_cell BK446.out 2).trans rfl, (blk_cell BK446.out 3).trans rfl⟩ (fun hHeld => ?_)
             clear hK K
             refine norm_ (a' := ?_) ?_ ?_
             rotate_left
             ·show Act.put _ (some 55) _ = _
              simp only [Act.put, sA, sB, sC, i64_w, i32_w]
              rfl
             refine pure_ (i := 8) (N := some 5) (v := ?_) (a' := ?_) (bm 511 9) rfl rfl (any_of HT_.out (by kernel_rfl)) (fun _ _ _ h => h) (Or.inl ⟨by rfl, ?_⟩) ?_ ?_
             rotate_left
             ·intro w'
              go_simp
              with_reducible rfl
             rotate_left
             ·simp only [Act.put, sA, sB, sC, i64_w, i32_w]
              rfl
             refine done_ (done_of HT_.out (by kernel_rfl)) ?_
             try go_wp2
             go_roundg k1
             case measure => have := HK1.out; omega
             case rel => exact ⟨(y451), (wrap64 (x16_1 + 1)), (by first | rfl | (simp; done) | (simp [*]; done)), H', ⟨by have := HK1.out; omega⟩, ⟨by (with_reducible repeat (first | apply Kd.R_alloc | apply Kd.R_drewN | apply Kd.R_drew)); exact HO453.out⟩, ⟨by repeat (first | (with_reducible first | exact HB.out | apply below_alloc | apply pw_below_drewN | apply below_drew1 | refine below_set ?_ GE446.out) | exact HB.out)⟩⟩
            ·rw [if_neg c22] at H
             exact absurd H (by simp)
          ·rw [if_neg c12] at H
           exact absurd H (by simp)
         ·rw [if_neg c11] at H
          exact absurd H (by simp)
        ·rw [if_neg c9] at H
         have c9b0 : decide (0 ≤ (wrap64 ((x5_1.length : Int) - 1))) = false := decide_eq_false c9
         clear c9
         replace H := Option.bind_eq_some_iff.mp H
         obtain ⟨t454, A300, H⟩ := H
         replace H : (if x5_1.length < 8796093022208 then (delta_Axis.l0 k1 (x5_1 ++ [(⟨(rd_T95 l0 x16_1).f0, t454⟩ : S121)]) l0 (l0.length : Int) (wrap64 (x16_1 + 1))) else (none)) = some (r1, r2) := H
         have A30 := Aside0.mk A300
         clear A300
         by_cases c31 : x5_1.length < 8796093022208
         ·rw [if_pos c31] at H
          have LMc31 := Aside0.mk c31
          clear c31
          obtain ⟨y455, hy455⟩ : ∃ y_ : List (S121), y_ = (x5_1 ++ [(⟨(rd_T95 l0 x16_1).f0, t454⟩ : S121)]) := ⟨_, rfl⟩
          replace H : (delta_Axis.l0 k1 y455 l0 (l0.length : Int) (wrap64 (x16_1 + 1))) = some (r1, r2) := by first | (rw [hy455]; with_reducible exact H) | (have H2_ := (Option.bind_some _ _).symm.trans H; rw [hy455]; with_reducible exact H2_) | (have H2_ := (Option.bind_some _ _).symm.trans H; with_reducible exact H2_) | with_reducible exact H | (rw [hy455]; exact H) | exact H
          have Ny455 := Aside0.mk hy455
          clear hy455
          have H' := Aside0.mk H
          clear H
          have p445 : 0 ≤ (x16_1 : Int) := of_decide_eq_true (by assumption)
          have q445 : x16_1 < (l0.length : Int) := of_decide_eq_true (by assumption)
          obtain ⟨ad445, A445_2, c445_2, A445_3, c445_3, e445, hx445_0, hx445_1, hx445_2, hx445_3, hl445_2, hi445_2, hl445_3, hi445_3⟩ := at_T95 HR0.out x16_1 p445 q445
          cases e445
          replace hx445_0 := (HB.out.cell (World.block_lt_of_cell? w _ hx445_0)).trans hx445_0
          replace hx445_1 := (HB.out.cell (World.block_lt_of_cell? w _ hx445_1)).trans hx445_1
          replace hx445_2 := (HB.out.cell (World.block_lt_of_cell? w _ hx445_2)).trans hx445_2
          replace hx445_3 := (HB.out.cell (World.block_lt_of_cell? w _ hx445_3)).trans hx445_3
          have HR445_2 := Aside0.mk hi445_2
          have HC445_2 := Aside0.mk hl445_2
          clear hi445_2 hl445_2
          have HR445_3 := Aside0.mk hi445_3
          have HC445_3 := Aside0.mk hl445_3
          clear hi445_3 hl445_3
          replace p445 := eq_true p445
          replace q445 := eq_true q445
          try go_wp2_with (first | ((with_reducible refine gate_dst (N := 7) rfl ?_); refine box_event ?hg (N := 7) ?hd (cs := #[.int .i64 0, .int .i64 0, .slice none 0 0, .slice none 0 0]) (t := 95) ?hr ?_; (case hd => rfl); (case hg => rfl); (case hr => first | (go_simp; done) | (go_simp; rfl)); intro gb446 hg w32 hbox hb; have n0_ := Aside0.mk (Kd.R_below (by (with_reducible repeat (first | apply Kd.R_alloc | apply Kd.R_drewN | apply Kd.R_drew)); exact HO_5.out) hb); have n1_ := Aside0.mk (below_step (by with_reducible repeat first | exact HB.out | apply below_alloc | apply pw_below_drewN | apply below_drew1) hb); have n2_ := Aside0.mk (hbox); have n3_ := Aside0.mk ((by rw [hg]; exact (below_size (by with_reducible repeat first | exact HB.out | apply below_alloc | apply pw_below_drewN | apply below_drew1)) : w.heap.size ≤ gb446)); have n4_ := Aside0.mk ((by rw [hg]; exact (below_size (by with_reducible repeat first | exact HB.out | apply below_alloc | apply pw_below_drewN | apply below_drew1)) : w.heap.size ≤ gb446)); clear HO_5; clear HB; have HO_5 := n0_; have HB := n1_; have BK446 := n2_; have GW446 := n3_; have GE446 := n4_; clear n0_ n1_ n2_ n3_ n4_; clear hb hbox hg; have hcz33_0 : w32.cell? ⟨gb446, 0, none⟩ = some (.int .i64 0) := (blk_cell BK446.out 0).trans rfl; have hcz33_1 : w32.cell? ⟨gb446, 1, none⟩ = some (.int .i64 0) := (blk_cell BK446.out 1).trans rfl; have hcz33_2 : w32.cell? ⟨gb446, 2, none⟩ = some (.slice none 0 0) := (blk_cell BK446.out 2).trans rfl; have hcz33_3 : w32.cell? ⟨gb446, 3, none⟩ = some (.slice none 0 0) := (blk_cell BK446.out 3).trans rfl; have hfz33_0 := blk_frozen BK446.out 0; have hfz33_1 := blk_frozen BK446.out 1; have hfz33_2 := blk_frozen BK446.out 2; have hfz33_3 := blk_frozen BK446.out 3; obtain ⟨Ao34, co34, eo34⟩ := Kd.R_slice HO_5.out; subst eo34))
          have n0_ : Aside0 (Kd.R k121 121 ((((w32.setCell ⟨gb446, 0, none⟩ (.int .i64 ((rd_T95 l0 x16_1).f0))).setCell ⟨gb446, 1, none⟩ (.int .i64 ((rd_T95 l0 x16_1).f1))).setCell ⟨gb446, 2, none⟩ (.slice A445_2 ((rd_T95 l0 x16_1).f2).length c445_2)).setCell ⟨gb446, 3, none⟩ (.slice A445_3 ((rd_T95 l0 x16_1).f3).length c445_3)) w.heap.size (fun _ => True) (.slice Ao34 x5_1.length co34) x5_1) := ⟨by (with_reducible repeat (first | apply Kd.R_alloc | apply Kd.R_drewN | apply Kd.R_drew)); exact Kd.R_mono (Kd.R_far (p := ⟨gb446, 3, none⟩) (Kd.R_far (p := ⟨gb446, 2, none⟩) (Kd.R_far (p := ⟨gb446, 1, none⟩) (Kd.R_far (p := ⟨gb446, 0, none⟩) (Kd.R_types HO_5.out BK446.out (by decide)) (fun _ hk => hk.2) (.int .i64 ((rd_T95 l0 x16_1).f0))) (fun _ hk => hk.2) (.int .i64 ((rd_T95 l0 x16_1).f1))) (fun _ hk => hk.2) (.slice A445_2 ((rd_T95 l0 x16_1).f2).length c445_2)) (fun _ hk => hk.2) (.slice A445_3 ((rd_T95 l0 x16_1).f3).length c445_3)) (fun _ hk => trivial)⟩
          have n1_ : Aside0 (((((w32.setCell ⟨gb446, 0, none⟩ (.int .i64 ((rd_T95 l0 x16_1).f0))).setCell ⟨gb446, 1, none⟩ (.int .i64 ((rd_T95 l0 x16_1).f1))).setCell ⟨gb446, 2, none⟩ (.slice A445_2 ((rd_T95 l0 x16_1).f2).length c445_2)).setCell ⟨gb446, 3, none⟩ (.slice A445_3 ((rd_T95 l0 x16_1).f3).length c445_3)).heap[gb446]? = some (.cells #[.int .i64 ((rd_T95 l0 x16_1).f0), .int .i64 ((rd_T95 l0 x16_1).f1), .slice A445_2 ((rd_T95 l0 x16_1).f2).length c445_2, .slice A445_3 ((rd_T95 l0 x16_1).f3).length c445_3] 95 (0, 0))) := ⟨by (with_reducible repeat (first | refine blk_drewN ?_ _ | refine blk_drew ?_ | refine blk_alloc ?_ _)); refine blk_put (cs := #[.int .i64 ((rd_T95 l0 x16_1).f0), .int .i64 ((rd_T95 l0 x16_1).f1), .slice A445_2 ((rd_T95 l0 x16_1).f2).length c445_2, .slice none 0 0]) ?_ 3 _ rfl; (with_reducible repeat (first | refine blk_drewN ?_ _ | refine blk_drew ?_ | refine blk_alloc ?_ _)); refine blk_put (cs := #[.int .i64 ((rd_T95 l0 x16_1).f0), .int .i64 ((rd_T95 l0 x16_1).f1), .slice none 0 0, .slice none 0 0]) ?_ 2 _ rfl; (with_reducible repeat (first | refine blk_drewN ?_ _ | refine blk_drew ?_ | refine blk_alloc ?_ _)); refine blk_put (cs := #[.int .i64 ((rd_T95 l0 x16_1).f0), .int .i64 0, .slice none 0 0, .slice none 0 0]) ?_ 1 _ rfl; (with_reducible repeat (first | refine blk_drewN ?_ _ | refine blk_drew ?_ | refine blk_alloc ?_ _)); refine blk_put (cs := #[.int .i64 0, .int .i64 0, .slice none 0 0, .slice none 0 0]) ?_ 0 _ rfl; (with_reducible repeat (first | refine blk_drewN ?_ _ | refine blk_drew ?_ | refine blk_alloc ?_ _)); exact BK446.out⟩
          have n2_ : Aside0 (Below w.heap.size w ((((w32.setCell ⟨gb446, 0, none⟩ (.int .i64 ((rd_T95 l0 x16_1).f0))).setCell ⟨gb446, 1, none⟩ (.int .i64 ((rd_T95 l0 x16_1).f1))).setCell ⟨gb446, 2, none⟩ (.slice A445_2 ((rd_T95 l0 x16_1).f2).length c445_2)).setCell ⟨gb446, 3, none⟩ (.slice A445_3 ((rd_T95 l0 x16_1).f3).length c445_3))) := ⟨by repeat (first | (with_reducible first | exact HB.out | apply below_alloc | apply pw_below_drewN | apply below_drew1 | refine below_set ?_ GE446.out) | exact HB.out)⟩
          (try clear HO_5)
          (try clear BK446)
          (try clear HB)
          generalize ((((w32.setCell ⟨gb446, 0, none⟩ (.int .i64 ((rd_T95 l0 x16_1).f0))).setCell ⟨gb446, 1, none⟩ (.int .i64 ((rd_T95 l0 x16_1).f1))).setCell ⟨gb446, 2, none⟩ (.slice A445_2 ((rd_T95 l0 x16_1).f2).length c445_2)).setCell ⟨gb446, 3, none⟩ (.slice A445_3 ((rd_T95 l0 x16_1).f3).length c445_3)) = w35 at n0_ n1_ n2_ ⊢
          have HO_5 := n0_
          have BK446 := n1_
          have HB := n2_
          clear n0_ n1_ n2_
          have n0_ := Aside0.mk (Kd.R_drew HO_5.out)
          have n1_ := Aside0.mk (blk_drew BK446.out)
          have n2_ := Aside0.mk (below_drew1 HB.out)
          clear HO_5
          clear BK446
          clear HB
          have HO_5 := n0_
          have BK446 := n1_
          have HB := n2_
          clear n0_ n1_ n2_
          refine start_ (n := 9) (S := fun w' => w'.cell? ⟨gb446, 0, none⟩ = some (.int .i64 ((rd_T95 l0 x16_1).f0)) ∧ w'.cell? ⟨gb446, 1, none⟩ = some (.int .i64 ((rd_T95 l0 x16_1).f1)) ∧ w'.cell? ⟨gb446, 2, none⟩ = some (.slice A445_2 ((rd_T95 l0 x16_1).f2).length c445_2) ∧ w'.cell? ⟨gb446, 3, none⟩ = some (.slice A445_3 ((rd_T95 l0 x16_1).f3).length c445_3)) (ds := []) #[false, false, false, false, false, false, false, false, false] (by kernel_rfl) rfl rfl ⟨(blk_cell BK446.out 0).trans rfl, (blk_cell BK446.out 1).trans rfl, (blk_cell BK446.out 2).trans rfl, (blk_cell BK446.out 3).trans rfl⟩ (fun hHeld => ?_); refine with_tabW delta_Axis.tab11 delta_Axis.bits11 (fun HT_ HW_ => ?_)
          generalize w35.drew = w36 at HO_5 BK446 HB hHeld ⊢
          refine pure_ (i := 0) (N := some 48) (v := ?_) (a' := ?_) (bm 1 9) rfl rfl (any_of HT_.out (by kernel_rfl)) (fun _ _ _ h => h) (Or.inl ⟨by rfl, ?_⟩) ?_ ?_
          rotate_left
          ·intro w'
           go_simp
           with_reducible rfl
          rotate_left
          ·simp only [Act.put, sA, sB, sC, i64_w, i32_w]
           rfl
          refine pure_ (i := 1) (N := some 49) (v := ?_) (a' := ?_) (bm 3 9) rfl rfl (any_of HT_.out (by kernel_rfl)) (fun _ _ _ h => h) (Or.inl ⟨by rfl, ?_⟩) ?_ ?_
          rotate_left
          ·intro w'
           go_simp
           with_reducible rfl
          rotate_left
          ·simp only [Act.put, sA, sB, sC, i64_w, i32_w]
           rfl
          refine take_ (i := 2) (N := some 50) (v := ?_) (a' := ?_) (bm 7 9) rfl rfl (take_ofW HT_.out HW_.out (by kernel_rfl)) (fun _ _ _ h => h) (Or.inl ⟨by rfl, ?_⟩) hHeld ?_ ?_
          rotate_left
          ·rintro w' ⟨s0, s1, s2, s3⟩
           go_simp
           with_reducible rfl
          rotate_left
          ·simp only [Act.put, sA, sB, sC, i64_w, i32_w]
           rfl
          refine take_ (i := 3) (N := some 51) (v := ?_) (a' := ?_) (bm 15 9) rfl rfl (take_ofW HT_.out HW_.out (by kernel_rfl)) (fun _ _ _ h => h) (Or.inl ⟨by rfl, ?_⟩) hHeld ?_ ?_
          rotate_left
          ·rintro w' ⟨s0, s1, s2, s3⟩
           go_simp
           with_reducible rfl
          rotate_left
          ·simp only [Act.put, sA, sB, sC, i64_w, i32_w]
           rfl
          refine one_ (i := 4) (N := some 52) (bm 31 9) rfl rfl (one_of HT_.out (by kernel_rfl)) (by decide) (fun K hK => ?_)
          refine goes_ Try.func68 (by kernel_rfl) rfl #[.agg #[.int .i64 ((rd_T95 l0 x16_1).f0), .int .i64 ((rd_T95 l0 x16_1).f1), .slice A445_2 ((rd_T95 l0 x16_1).f2).length c445_2, .slice A445_3 ((rd_T95 l0 x16_1).f3).length c445_3]] (by rfl) rfl rfl (by (try simp only [List.map_toArray, List.map_cons, List.map_nil]); first | done | rfl | (simp only [List.length_drop, List.length_take]; rfl)) ?_
          with_reducible refine (delta_size.calls ((rd_T95 l0 x16_1).f0) ((rd_T95 l0 x16_1).f1) _ _ ((rd_T95 l0 x16_1).f2) _ _ ((rd_T95 l0 x16_1).f3) t454 _ ?side1 ?side2 ?side3 ?side4 A30.out).mono ?_
          (case side1 => repeat (first | exact (Kd.C_below HR445_2.out HB.out) | (with_reducible refine Kd.C_alloc ?_ _) | (with_reducible refine Kd.C_drewN ?_ _) | (with_reducible refine Kd.C_drew ?_)))
          (case side2 => exact HC445_2.out)
          (case side3 => repeat (first | exact (Kd.C_below HR445_3.out HB.out) | (with_reducible refine Kd.C_alloc ?_ _) | (with_reducible refine Kd.C_drewN ?_ _) | (with_reducible refine Kd.C_drew ?_)))
          (case side4 => exact HC445_3.out)
          rintro e w37 ⟨rfl, hb⟩
          refine ⟨_, rfl, ?_⟩
          have n0_ := Aside0.mk (Kd.R_below (by (with_reducible repeat (first | apply Kd.R_alloc | apply Kd.R_drewN | apply Kd.R_drew)); exact HO_5.out) hb)
          have n1_ := Aside0.mk (blk_below (g := gb446) (o := .cells #[.int .i64 ((rd_T95 l0 x16_1).f0), .int .i64 ((rd_T95 l0 x16_1).f1), .slice A445_2 ((rd_T95 l0 x16_1).f2).length c445_2, .slice A445_3 ((rd_T95 l0 x16_1).f3).length c445_3] 95 (0, 0)) (by (with_reducible repeat (first | refine blk_drewN ?_ _ | refine blk_drew ?_ | refine blk_alloc ?_ _)); exact BK446.out) hb)
          have n2_ := Aside0.mk (below_step (by repeat (first | (with_reducible first | exact HB.out | apply below_alloc | apply pw_below_drewN | apply below_drew1 | refine below_set ?_ GE446.out) | exact HB.out)) hb)
          clear HO_5
          clear BK446
          clear HB
          have HO_5 := n0_
          have BK446 := n1_
          have HB := n2_
          clear n0_ n1_ n2_
          (try clear hb)
          (try clear hb2)
          (try clear hk)
          (try clear hi)
          refine hK.out _ _ ⟨(blk_cell BK446.out 0).trans rfl, (blk_cell BK446.out 1).trans rfl, (blk_cell BK446.out 2).trans rfl, (blk_cell BK446.out 3).trans rfl⟩ (fun hHeld => ?_)
          clear hK K
          refine norm_ (a' := ?_) ?_ ?_
          rotate_left
          ·show Act.put _ (some 52) _ = _
           simp only [Act.put, sA, sB, sC, i64_w, i32_w]
           rfl
          refine pure_ (i := 5) (N := some 53) (v := ?_) (a' := ?_) (bm 63 9) rfl rfl (any_of HT_.out (by kernel_rfl)) (fun _ _ _ h => h) (Or.inl ⟨by rfl, ?_⟩) ?_ ?_
          rotate_left
          ·intro w'
           go_simp
           with_reducible rfl
          rotate_left
          ·simp only [Act.put, sA, sB, sC, i64_w, i32_w]
           rfl
          refine one_ (i := 6) (N := some 54) (bm 127 9) rfl rfl (one_of HT_.out (by kernel_rfl)) (by decide) (fun K hK => ?_)
          refine value_ (w1 := ?_) (v := ?_) (by rfl) rfl ?_ ?_
          rotate_left 2
          ·go_simp
           constructor
           ·rfl
           ·rfl
          refine hK.out _ _ ⟨(blk_cell (blk_alloc BK446.out _) 0).trans rfl, (blk_cell (blk_alloc BK446.out _) 1).trans rfl, (blk_cell (blk_alloc BK446.out _) 2).trans rfl, (blk_cell (blk_alloc BK446.out _) 3).trans rfl⟩ (fun hHeld => ?_)
          clear hK K
          refine norm_ (a' := ?_) ?_ ?_
          rotate_left
          ·show Act.put _ (some 54) _ = _
           simp only [Act.put, sA, sB, sC, i64_w, i32_w]
           rfl
          refine one_ (i := 7) (N := some 55) (bm 255 9) rfl rfl (one_of HT_.out (by kernel_rfl)) (by decide) (fun K hK => ?_)
          refine Kd.R_append_step k121 (w0 := w) w.heap.size (by rfl) (.tmp 48) (.tmp 54) 59 121 (.agg #[(.int .i64 0), (.int .i64 0)]) 16 rfl Try.underlying59 info121 rfl (by decide) (by omega) (.slice Ao34 x5_1.length co34) x5_1 (⟨(rd_T95 l0 x16_1).f0, t454⟩ : S121) [.int .i64 ((rd_T95 l0 x16_1).f0), .int .i64 t454] (fun _ => True) (fun _ => False) rfl rfl ?aP (fun _ hk => hk.elim) ?aF ?aO ?aB ?aS ?aL ?_
          (case aP => exact k121_mkM _ _ _ (⟨(rd_T95 l0 x16_1).f0, t454⟩ : S121))
          (case aB => exact (by repeat (first | (with_reducible first | exact HB.out | apply below_alloc | apply pw_below_drewN | apply below_drew1 | refine below_set ?_ GE446.out) | exact HB.out)))
          (case aF => exact (fun _ _ => trivial))
          (case aO => exact (by (with_reducible repeat (first | apply Kd.R_alloc | apply Kd.R_drewN | apply Kd.R_drew)); exact HO_5.out))
          (case aS => exact (below_size (by repeat (first | (with_reducible first | exact HB.out | apply below_alloc | apply pw_below_drewN | apply below_drew1 | refine below_set ?_ GE446.out) | exact HB.out))))
          (case aL => have := LMc31.out; omega)
          intro v456 w38 ho hb hg hat
          rw [← Ny455.out] at ho
          have n0_ := Aside0.mk (blk_grown (g := gb446) (o := .cells #[.int .i64 ((rd_T95 l0 x16_1).f0), .int .i64 ((rd_T95 l0 x16_1).f1), .slice A445_2 ((rd_T95 l0 x16_1).f2).length c445_2, .slice A445_3 ((rd_T95 l0 x16_1).f3).length c445_3] 95 (0, 0)) (by (with_reducible repeat (first | refine blk_drewN ?_ _ | refine blk_drew ?_ | refine blk_alloc ?_ _)); exact BK446.out) hg (Kd.R_ne HO_5.out BK446.out (by decide)))
          have n1_ := Aside0.mk (hb)
          have n2_ := Aside0.mk (ho)
          clear BK446
          clear HB
          clear HO_5
          have BK446 := n0_
          have HB := n1_
          have HO457 := n2_
          clear n0_ n1_ n2_
          clear ho hb hg hat
          refine hK.out _ _ ⟨(blk_cell BK446.out 0).trans rfl, (blk_cell BK446.out 1).trans rfl, (blk_cell BK446.out 2).trans rfl, (blk_cell BK446.out 3).trans rfl⟩ (fun hHeld => ?_)
          clear hK K
          refine norm_ (a' := ?_) ?_ ?_
          rotate_left
          ·show Act.put _ (some 55) _ = _
           simp only [Act.put, sA, sB, sC, i64_w, i32_w]
           rfl
          refine pure_ (i := 8) (N := some 5) (v := ?_) (a' := ?_) (bm 511 9) rfl rfl (any_of HT_.out (by kernel_rfl)) (fun _ _ _ h => h) (Or.inl ⟨by rfl, ?_⟩) ?_ ?_
          rotate_left
          ·intro w'
           go_simp
           with_reducible rfl
          rotate_left
          ·simp only [Act.put, sA, sB, sC, i64_w, i32_w]
           rfl
          refine done_ (done_of HT_.out (by kernel_rfl)) ?_
          try go_wp2
          go_roundg k1
          case measure => have := HK1.out; omega
          case rel => exact ⟨(y455), (wrap64 (x16_1 + 1)), (by first | rfl | (simp; done) | (simp [*]; done)), H', ⟨by have := HK1.out; omega⟩, ⟨by (with_reducible repeat (first | apply Kd.R_alloc | apply Kd.R_drewN | apply Kd.R_drew)); exact HO457.out⟩, ⟨by repeat (first | (with_reducible first | exact HB.out | apply below_alloc | apply pw_below_drewN | apply below_drew1 | refine below_set ?_ GE446.out) | exact HB.out)⟩⟩
         ·rw [if_neg c31] at H
          exact absurd H (by simp)
       ·rw [if_neg c8] at H
        have c8b0 : (((rd_T95 l0 x16_1).f0) == 0) = false := beq_eq_false_iff_ne.mpr c8
        have c8b1 : (((rd_T95 l0 x16_1).f0) != 0) = true := bne_iff_ne.mpr c8
        replace H := Option.bind_eq_some_iff.mp H
        obtain ⟨t458, A390, H⟩ := H
        replace H : (if x5_1.length < 8796093022208 then (delta_Axis.l0 k1 (x5_1 ++ [(⟨(rd_T95 l0 x16_1).f0, t458⟩ : S121)]) l0 (l0.length : Int) (wrap64 (x16_1 + 1))) else (none)) = some (r1, r2) := H
        have A39 := Aside0.mk A390
        clear A390
        by_cases c40 : x5_1.length < 8796093022208
        ·rw [if_pos c40] at H
         have LMc40 := Aside0.mk c40
         clear c40
         obtain ⟨y459, hy459⟩ : ∃ y_ : List (S121), y_ = (x5_1 ++ [(⟨(rd_T95 l0 x16_1).f0, t458⟩ : S121)]) := ⟨_, rfl⟩
         replace H : (delta_Axis.l0 k1 y459 l0 (l0.length : Int) (wrap64 (x16_1 + 1))) = some (r1, r2) := by first | (rw [hy459]; with_reducible exact H) | (have H2_ := (Option.bind_some _ _).symm.trans H; rw [hy459]; with_reducible exact H2_) | (have H2_ := (Option.bind_some _ _).symm.trans H; with_reducible exact H2_) | with_reducible exact H | (rw [hy459]; exact H) | exact H
         have Ny459 := Aside0.mk hy459
         clear hy459
         have H' := Aside0.mk H
         clear H
         have p445 : 0 ≤ (x16_1 : Int) := of_decide_eq_true (by assumption)
         have q445 : x16_1 < (l0.length : Int) := of_decide_eq_true (by assumption)
         obtain ⟨ad445, A445_2, c445_2, A445_3, c445_3, e445, hx445_0, hx445_1, hx445_2, hx445_3, hl445_2, hi445_2, hl445_3, hi445_3⟩ := at_T95 HR0.out x16_1 p445 q445
         cases e445
         replace hx445_0 := (HB.out.cell (World.block_lt_of_cell? w _ hx445_0)).trans hx445_0
         replace hx445_1 := (HB.out.cell (World.block_lt_of_cell? w _ hx445_1)).trans hx445_1
         replace hx445_2 := (HB.out.cell (World.block_lt_of_cell? w _ hx445_2)).trans hx445_2
         replace hx445_3 := (HB.out.cell (World.block_lt_of_cell? w _ hx445_3)).trans hx445_3
         have HR445_2 := Aside0.mk hi445_2
         have HC445_2 := Aside0.mk hl445_2
         clear hi445_2 hl445_2
         have HR445_3 := Aside0.mk hi445_3
         have HC445_3 := Aside0.mk hl445_3
         clear hi445_3 hl445_3
         replace p445 := eq_true p445
         replace q445 := eq_true q445
         try go_wp2_with (first | ((with_reducible refine gate_dst (N := 7) rfl ?_); refine box_event ?hg (N := 7) ?hd (cs := #[.int .i64 0, .int .i64 0, .slice none 0 0, .slice none 0 0]) (t := 95) ?hr ?_; (case hd => rfl); (case hg => rfl); (case hr => first | (go_simp; done) | (go_simp; rfl)); intro gb446 hg w41 hbox hb; have n0_ := Aside0.mk (Kd.R_below (by (with_reducible repeat (first | apply Kd.R_alloc | apply Kd.R_drewN | apply Kd.R_drew)); exact HO_5.out) hb); have n1_ := Aside0.mk (below_step (by with_reducible repeat first | exact HB.out | apply below_alloc | apply pw_below_drewN | apply below_drew1) hb); have n2_ := Aside0.mk (hbox); have n3_ := Aside0.mk ((by rw [hg]; exact (below_size (by with_reducible repeat first | exact HB.out | apply below_alloc | apply pw_below_drewN | apply below_drew1)) : w.heap.size ≤ gb446)); have n4_ := Aside0.mk ((by rw [hg]; exact (below_size (by with_reducible repeat first | exact HB.out | apply below_alloc | apply pw_below_drewN | apply below_drew1)) : w.heap.size ≤ gb446)); clear HO_5; clear HB; have HO_5 := n0_; have HB := n1_; have BK446 := n2_; have GW446 := n3_; have GE446 := n4_; clear n0_ n1_ n2_ n3_ n4_; clear hb hbox hg; have hcz42_0 : w41.cell? ⟨gb446, 0, none⟩ = some (.int .i64 0) := (blk_cell BK446.out 0).trans rfl; have hcz42_1 : w41.cell? ⟨gb446, 1, none⟩ = some (.int .i64 0) := (blk_cell BK446.out 1).trans rfl; have hcz42_2 : w41.cell? ⟨gb446, 2, none⟩ = some (.slice none 0 0) := (blk_cell BK446.out 2).trans rfl; have hcz42_3 : w41.cell? ⟨gb446, 3, none⟩ = some (.slice none 0 0) := (blk_cell BK446.out 3).trans rfl; have hfz42_0 := blk_frozen BK446.out 0; have hfz42_1 := blk_frozen BK446.out 1; have hfz42_2 := blk_frozen BK446.out 2; have hfz42_3 := blk_frozen BK446.out 3; obtain ⟨Ao43, co43, eo43⟩ := Kd.R_slice HO_5.out; subst eo43))
         have n0_ : Aside0 (Kd.R k121 121 ((((w41.setCell ⟨gb446, 0, none⟩ (.int .i64 ((rd_T95 l0 x16_1).f0))).setCell ⟨gb446, 1, none⟩ (.int .i64 ((rd_T95 l0 x16_1).f1))).setCell ⟨gb446, 2, none⟩ (.slice A445_2 ((rd_T95 l0 x16_1).f2).length c445_2)).setCell ⟨gb446, 3, none⟩ (.slice A445_3 ((rd_T95 l0 x16_1).f3).length c445_3)) w.heap.size (fun _ => True) (.slice Ao43 x5_1.length co43) x5_1) := ⟨by (with_reducible repeat (first | apply Kd.R_alloc | apply Kd.R_drewN | apply Kd.R_drew)); exact Kd.R_mono (Kd.R_far (p := ⟨gb446, 3, none⟩) (Kd.R_far (p := ⟨gb446, 2, none⟩) (Kd.R_far (p := ⟨gb446, 1, none⟩) (Kd.R_far (p := ⟨gb446, 0, none⟩) (Kd.R_types HO_5.out BK446.out (by decide)) (fun _ hk => hk.2) (.int .i64 ((rd_T95 l0 x16_1).f0))) (fun _ hk => hk.2) (.int .i64 ((rd_T95 l0 x16_1).f1))) (fun _ hk => hk.2) (.slice A445_2 ((rd_T95 l0 x16_1).f2).length c445_2)) (fun _ hk => hk.2) (.slice A445_3 ((rd_T95 l0 x16_1).f3).length c445_3)) (fun _ hk => trivial)⟩
         have n1_ : Aside0 (((((w41.setCell ⟨gb446, 0, none⟩ (.int .i64 ((rd_T95 l0 x16_1).f0))).setCell ⟨gb446, 1, none⟩ (.int .i64 ((rd_T95 l0 x16_1).f1))).setCell ⟨gb446, 2, none⟩ (.slice A445_2 ((rd_T95 l0 x16_1).f2).length c445_2)).setCell ⟨gb446, 3, none⟩ (.slice A445_3 ((rd_T95 l0 x16_1).f3).length c445_3)).heap[gb446]? = some (.cells #[.int .i64 ((rd_T95 l0 x16_1).f0), .int .i64 ((rd_T95 l0 x16_1).f1), .slice A445_2 ((rd_T95 l0 x16_1).f2).length c445_2, .slice A445_3 ((rd_T95 l0 x16_1).f3).length c445_3] 95 (0, 0))) := ⟨by (with_reducible repeat (first | refine blk_drewN ?_ _ | refine blk_drew ?_ | refine blk_alloc ?_ _)); refine blk_put (cs := #[.int .i64 ((rd_T95 l0 x16_1).f0), .int .i64 ((rd_T95 l0 x16_1).f1), .slice A445_2 ((rd_T95 l0 x16_1).f2).length c445_2, .slice none 0 0]) ?_ 3 _ rfl; (with_reducible repeat (first | refine blk_drewN ?_ _ | refine blk_drew ?_ | refine blk_alloc ?_ _)); refine blk_put (cs := #[.int .i64 ((rd_T95 l0 x16_1).f0), .int .i64 ((rd_T95 l0 x16_1).f1), .slice none 0 0, .slice none 0 0]) ?_ 2 _ rfl; (with_reducible repeat (first | refine blk_drewN ?_ _ | refine blk_drew ?_ | refine blk_alloc ?_ _)); refine blk_put (cs := #[.int .i64 ((rd_T95 l0 x16_1).f0), .int .i64 0, .slice none 0 0, .slice none 0 0]) ?_ 1 _ rfl; (with_reducible repeat (first | refine blk_drewN ?_ _ | refine blk_drew ?_ | refine blk_alloc ?_ _)); refine blk_put (cs := #[.int .i64 0, .int .i64 0, .slice none 0 0, .slice none 0 0]) ?_ 0 _ rfl; (with_reducible repeat (first | refine blk_drewN ?_ _ | refine blk_drew ?_ | refine blk_alloc ?_ _)); exact BK446.out⟩
         have n2_ : Aside0 (Below w.heap.size w ((((w41.setCell ⟨gb446, 0, none⟩ (.int .i64 ((rd_T95 l0 x16_1).f0))).setCell ⟨gb446, 1, none⟩ (.int .i64 ((rd_T95 l0 x16_1).f1))).setCell ⟨gb446, 2, none⟩ (.slice A445_2 ((rd_T95 l0 x16_1).f2).length c445_2)).setCell ⟨gb446, 3, none⟩ (.slice A445_3 ((rd_T95 l0 x16_1).f3).length c445_3))) := ⟨by repeat (first | (with_reducible first | exact HB.out | apply below_alloc | apply pw_below_drewN | apply below_drew1 | refine below_set ?_ GE446.out) | exact HB.out)⟩
         (try clear HO_5)
         (try clear BK446)
         (try clear HB)
         generalize ((((w41.setCell ⟨gb446, 0, none⟩ (.int .i64 ((rd_T95 l0 x16_1).f0))).setCell ⟨gb446, 1, none⟩ (.int .i64 ((rd_T95 l0 x16_1).f1))).setCell ⟨gb446, 2, none⟩ (.slice A445_2 ((rd_T95 l0 x16_1).f2).length c445_2)).setCell ⟨gb446, 3, none⟩ (.slice A445_3 ((rd_T95 l0 x16_1).f3).length c445_3)) = w44 at n0_ n1_ n2_ ⊢
         have HO_5 := n0_
         have BK446 := n1_
         have HB := n2_
         clear n0_ n1_ n2_
         have n0_ := Aside0.mk (Kd.R_drew HO_5.out)
         have n1_ := Aside0.mk (blk_drew BK446.out)
         have n2_ := Aside0.mk (below_drew1 HB.out)
         clear HO_5
         clear BK446
         clear HB
         have HO_5 := n0_
         have BK446 := n1_
         have HB := n2_
         clear n0_ n1_ n2_
         refine start_ (n := 9) (S := fun w' => w'.cell? ⟨gb446, 0, none⟩ = some (.int .i64 ((rd_T95 l0 x16_1).f0)) ∧ w'.cell? ⟨gb446, 1, none⟩ = some (.int .i64 ((rd_T95 l0 x16_1).f1)) ∧ w'.cell? ⟨gb446, 2, none⟩ = some (.slice A445_2 ((rd_T95 l0 x16_1).f2).length c445_2) ∧ w'.cell? ⟨gb446, 3, none⟩ = some (.slice A445_3 ((rd_T95 l0 x16_1).f3).length c445_3)) (ds := []) #[false, false, false, false, false, false, false, false, false] (by kernel_rfl) rfl rfl ⟨(blk_cell BK446.out 0).trans rfl, (blk_cell BK446.out 1).trans rfl, (blk_cell BK446.out 2).trans rfl, (blk_cell BK446.out 3).trans rfl⟩ (fun hHeld => ?_); refine with_tabW delta_Axis.tab11 delta_Axis.bits11 (fun HT_ HW_ => ?_)
         generalize w44.drew = w45 at HO_5 BK446 HB hHeld ⊢
         refine pure_ (i := 0) (N := some 48) (v := ?_) (a' := ?_) (bm 1 9) rfl rfl (any_of HT_.out (by kernel_rfl)) (fun _ _ _ h => h) (Or.inl ⟨by rfl, ?_⟩) ?_ ?_
         rotate_left
         ·intro w'
          go_simp
          with_reducible rfl
         rotate_left
         ·simp only [Act.put, sA, sB, sC, i64_w, i32_w]
          rfl
         refine pure_ (i := 1) (N := some 49) (v := ?_) (a' := ?_) (bm 3 9) rfl rfl (any_of HT_.out (by kernel_rfl)) (fun _ _ _ h => h) (Or.inl ⟨by rfl, ?_⟩) ?_ ?_
         rotate_left
         ·intro w'
          go_simp
          with_reducible rfl
         rotate_left
         ·simp only [Act.put, sA, sB, sC, i64_w, i32_w]
          rfl
         refine take_ (i := 2) (N := some 50) (v := ?_) (a' := ?_) (bm 7 9) rfl rfl (take_ofW HT_.out HW_.out (by kernel_rfl)) (fun _ _ _ h => h) (Or.inl ⟨by rfl, ?_⟩) hHeld ?_ ?_
         rotate_left
         ·rintro w' ⟨s0, s1, s2, s3⟩
          go_simp
          with_reducible rfl
         rotate_left
         ·simp only [Act.put, sA, sB, sC, i64_w, i32_w]
          rfl
         refine take_ (i := 3) (N := some 51) (v := ?_) (a' := ?_) (bm 15 9) rfl rfl (take_ofW HT_.out HW_.out (by kernel_rfl)) (fun _ _ _ h => h) (Or.inl ⟨by rfl, ?_⟩) hHeld ?_ ?_
         rotate_left
         ·rintro w' ⟨s0, s1, s2, s3⟩
          go_simp
          with_reducible rfl
         rotate_left
         ·simp only [Act.put, sA, sB, sC, i64_w, i32_w]
          rfl
         refine one_ (i := 4) (N := some 52) (bm 31 9) rfl rfl (one_of HT_.out (by kernel_rfl)) (by decide) (fun K hK => ?_)
         refine goes_ Try.func68 (by kernel_rfl) rfl #[.agg #[.int .i64 ((rd_T95 l0 x16_1).f0), .int .i64 ((rd_T95 l0 x16_1).f1), .slice A445_2 ((rd_T95 l0 x16_1).f2).length c445_2, .slice A445_3 ((rd_T95 l0 x16_1).f3).length c445_3]] (by rfl) rfl rfl (by (try simp only [List.map_toArray, List.map_cons, List.map_nil]); first | done | rfl | (simp only [List.length_drop, List.length_take]; rfl)) ?_
         with_reducible refine (delta_size.calls ((rd_T95 l0 x16_1).f0) ((rd_T95 l0 x16_1).f1) _ _ ((rd_T95 l0 x16_1).f2) _ _ ((rd_T95 l0 x16_1).f3) t458 _ ?side1 ?side2 ?side3 ?side4 A39.out).mono ?_
         (case side1 => repeat (first | exact (Kd.C_below HR445_2.out HB.out) | (with_reducible refine Kd.C_alloc ?_ _) | (with_reducible refine Kd.C_drewN ?_ _) | (with_reducible refine Kd.C_drew ?_)))
         (case side2 => exact HC445_2.out)
         (case side3 => repeat (first | exact (Kd.C_below HR445_3.out HB.out) | (with_reducible refine Kd.C_alloc ?_ _) | (with_reducible refine Kd.C_drewN ?_ _) | (with_reducible refine Kd.C_drew ?_)))
         (case side4 => exact HC445_3.out)
         rintro e w46 ⟨rfl, hb⟩
         refine ⟨_, rfl, ?_⟩
         have n0_ := Aside0.mk (Kd.R_below (by (with_reducible repeat (first | apply Kd.R_alloc | apply Kd.R_drewN | apply Kd.R_drew)); exact HO_5.out) hb)
         have n1_ := Aside0.mk (blk_below (g := gb446) (o := .cells #[.int .i64 ((rd_T95 l0 x16_1).f0), .int .i64 ((rd_T95 l0 x16_1).f1), .slice A445_2 ((rd_T95 l0 x16_1).f2).length c445_2, .slice A445_3 ((rd_T95 l0 x16_1).f3).length c445_3] 95 (0, 0)) (by (with_reducible repeat (first | refine blk_drewN ?_ _ | refine blk_drew ?_ | refine blk_alloc ?_ _)); exact BK446.out) hb)
         have n2_ := Aside0.mk (below_step (by repeat (first | (with_reducible first | exact HB.out | apply below_alloc | apply pw_below_drewN | apply below_drew1 | refine below_set ?_ GE446.out) | exact HB.out)) hb)
         clear HO_5
         clear BK446
         clear HB
         have HO_5 := n0_
         have BK446 := n1_
         have HB := n2_
         clear n0_ n1_ n2_
         (try clear hb)
         (try clear hb2)
         (try clear hk)
         (try clear hi)
         refine hK.out _ _ ⟨(blk_cell BK446.out 0).trans rfl, (blk_cell BK446.out 1).trans rfl, (blk_cell BK446.out 2).trans rfl, (blk_cell BK446.out 3).trans rfl⟩ (fun hHeld => ?_)
         clear hK K
         refine norm_ (a' := ?_) ?_ ?_
         rotate_left
         ·show Act.put _ (some 52) _ = _
          simp only [Act.put, sA, sB, sC, i64_w, i32_w]
          rfl
         refine pure_ (i := 5) (N := some 53) (v := ?_) (a' := ?_) (bm 63 9) rfl rfl (any_of HT_.out (by kernel_rfl)) (fun _ _ _ h => h) (Or.inl ⟨by rfl, ?_⟩) ?_ ?_
         rotate_left
         ·intro w'
          go_simp
          with_reducible rfl
         rotate_left
         ·simp only [Act.put, sA, sB, sC, i64_w, i32_w]
          rfl
         refine one_ (i := 6) (N := some 54) (bm 127 9) rfl rfl (one_of HT_.out (by kernel_rfl)) (by decide) (fun K hK => ?_)
         refine value_ (w1 := ?_) (v := ?_) (by rfl) rfl ?_ ?_
         rotate_left 2
         ·go_simp
          constructor
          ·rfl
          ·rfl
         refine hK.out _ _ ⟨(blk_cell (blk_alloc BK446.out _) 0).trans rfl, (blk_cell (blk_alloc BK446.out _) 1).trans rfl, (blk_cell (blk_alloc BK446.out _) 2).trans rfl, (blk_cell (blk_alloc BK446.out _) 3).trans rfl⟩ (fun hHeld => ?_)
         clear hK K
         refine norm_ (a' := ?_) ?_ ?_
         rotate_left
         ·show Act.put _ (some 54) _ = _
          simp only [Act.put, sA, sB, sC, i64_w, i32_w]
          rfl
         refine one_ (i := 7) (N := some 55) (bm 255 9) rfl rfl (one_of HT_.out (by kernel_rfl)) (by decide) (fun K hK => ?_)
         refine Kd.R_append_step k121 (w0 := w) w.heap.size (by rfl) (.tmp 48) (.tmp 54) 59 121 (.agg #[(.int .i64 0), (.int .i64 0)]) 16 rfl Try.underlying59 info121 rfl (by decide) (by omega) (.slice Ao43 x5_1.length co43) x5_1 (⟨(rd_T95 l0 x16_1).f0, t458⟩ : S121) [.int .i64 ((rd_T95 l0 x16_1).f0), .int .i64 t458] (fun _ => True) (fun _ => False) rfl rfl ?aP (fun _ hk => hk.elim) ?aF ?aO ?aB ?aS ?aL ?_
         (case aP => exact k121_mkM _ _ _ (⟨(rd_T95 l0 x16_1).f0, t458⟩ : S121))
         (case aB => exact (by repeat (first | (with_reducible first | exact HB.out | apply below_alloc | apply pw_below_drewN | apply below_drew1 | refine below_set ?_ GE446.out) | exact HB.out)))
         (case aF => exact (fun _ _ => trivial))
         (case aO => exact (by (with_reducible repeat (first | apply Kd.R_alloc | apply Kd.R_drewN | apply Kd.R_drew)); exact HO_5.out))
         (case aS => exact (below_size (by repeat (first | (with_reducible first | exact HB.out | apply below_alloc | apply pw_below_drewN | apply below_drew1 | refine below_set ?_ GE446.out) | exact HB.out))))
         (case aL => have := LMc40.out; omega)
         intro v460 w47 ho hb hg hat
         rw [← Ny459.out] at ho
         have n0_ := Aside0.mk (blk_grown (g := gb446) (o := .cells #[.int .i64 ((rd_T95 l0 x16_1).f0), .int .i64 ((rd_T95 l0 x16_1).f1), .slice A445_2 ((rd_T95 l0 x16_1).f2).length c445_2, .slice A445_3 ((rd_T95 l0 x16_1).f3).length c445_3] 95 (0, 0)) (by (with_reducible repeat (first | refine blk_drewN ?_ _ | refine blk_drew ?_ | refine blk_alloc ?_ _)); exact BK446.out) hg (Kd.R_ne HO_5.out BK446.out (by decide)))
         have n1_ := Aside0.mk (hb)
         have n2_ := Aside0.mk (ho)
         clear BK446
         clear HB
         clear HO_5
         have BK446 := n0_
         have HB := n1_
         have HO461 := n2_
         clear n0_ n1_ n2_
         clear ho hb hg hat
         refine hK.out _ _ ⟨(blk_cell BK446.out 0).trans rfl, (blk_cell BK446.out 1).trans rfl, (blk_cell BK446.out 2).trans rfl, (blk_cell BK446.out 3).trans rfl⟩ (fun hHeld => ?_)
         clear hK K
         refine norm_ (a' := ?_) ?_ ?_
         rotate_left
         ·show Act.put _ (some 55) _ = _
          simp only [Act.put, sA, sB, sC, i64_w, i32_w]
          rfl
         refine pure_ (i := 8) (N := some 5) (v := ?_) (a' := ?_) (bm 511 9) rfl rfl (any_of HT_.out (by kernel_rfl)) (fun _ _ _ h => h) (Or.inl ⟨by rfl, ?_⟩) ?_ ?_
         rotate_left
         ·intro w'
          go_simp
          with_reducible rfl
         rotate_left
         ·simp only [Act.put, sA, sB, sC, i64_w, i32_w]
          rfl
         refine done_ (done_of HT_.out (by kernel_rfl)) ?_
         try go_wp2
         go_roundg k1
         case measure => have := HK1.out; omega
         case rel => exact ⟨(y459), (wrap64 (x16_1 + 1)), (by first | rfl | (simp; done) | (simp [*]; done)), H', ⟨by have := HK1.out; omega⟩, ⟨by (with_reducible repeat (first | apply Kd.R_alloc | apply Kd.R_drewN | apply Kd.R_drew)); exact HO461.out⟩, ⟨by repeat (first | (with_reducible first | exact HB.out | apply below_alloc | apply pw_below_drewN | apply below_drew1 | refine below_set ?_ GE446.out) | exact HB.out)⟩⟩
        ·rw [if_neg c40] at H
         exact absurd H (by simp)
      ·rw [if_neg c7] at H
       exact absurd H (by simp)
     ·rw [if_neg c6] at H
      exact absurd H (by simp)
    ·rw [if_neg c5] at H
     have c5b0 : decide (x16_1 < (l0.length : Int)) = false := decide_eq_false c5
     clear c5
     simp only [Option.some.injEq, Prod.mk.injEq] at H
     obtain ⟨rfl, rfl⟩ := H
     go_wp2
     go_ret2
     exact ⟨_, by first | rfl | (simp [errW_none, errW_some] <;> rfl) | (simp [*, errW_none, errW_some] <;> rfl), by (with_reducible repeat (first | apply Kd.R_alloc | apply Kd.R_drewN | apply Kd.R_drew)); exact HO_5.out, by repeat (first | (with_reducible first | exact HB.out | apply below_alloc | apply pw_below_drewN | apply below_drew1) | exact HB.out)⟩
 ·rw [if_neg c3] at H
  have c3b0 : (t444 == 0) = false := beq_eq_false_iff_ne.mpr c3
  have c3b1 : (t444 != 0) = true := bne_iff_ne.mpr c3
  simp only [Option.some.injEq, Prod.mk.injEq] at H
  obtain ⟨rfl, rfl⟩ := H
  go_enter Try.func32, Try.ntmps32
  go_wp2_with (first | ((with_reducible refine gate_callee (f := 67) rfl ?_); refine goesL_ (some 10) rfl rfl Try.func67 (by kernel_rfl) rfl #[.slice A0 l0.length c0] rfl (by (try simp only [List.map_toArray, List.map_cons, List.map_nil]); first | done | rfl | (simp only [List.length_drop, List.length_take]; rfl)) ?_; (with_reducible refine (delta_Check.calls k _ _ l0 t444 _ ?side1 ?side2 A2.out).mono ?_); (case side1 => repeat (first | exact HR0.out | (with_reducible refine Kd.C_alloc ?_ _) | (with_reducible refine Kd.C_drewN ?_ _) | (with_reducible refine Kd.C_drew ?_))); (case side2 => exact HC0.out); rintro e w48 ⟨rfl, hb⟩; refine ⟨_, rfl, ?_⟩; replace HB := Aside0.mk (below_step (by with_reducible repeat first | exact HB.out | apply below_alloc | apply pw_below_drewN | apply below_drew1) hb); (try clear hb); (try clear hb2); (try clear hk); (try clear hi)))
  go_ret2
  exact ⟨_, by first | rfl | (simp [errW_none, errW_some] <;> rfl) | (simp [*, errW_none, errW_some] <;> rfl), by first | exact Kd.R_nil _ _ _ _ _ | exact Kd.N_nil _ _ _ _ _ | exact Kd.V_nil _ _ _ _ _ | exact Kd.Q_nil _ _ _ _ _ | exact Kd.S_nil _ _ _ _ _, by repeat (first | (with_reducible first | exact HB.out | apply below_alloc | apply pw_below_drewN | apply below_drew1) | exact HB.out)⟩
def axis_Lengths.f (k : Nat) (l0 : List (S121)) : Option (Int × Int × Int) := (axis_Check.f k l0).bind fun t468 => (if t468 = 0 then ((axis_lengths.f k l0).bind fun bt469 => (some (bt469.1, bt469.2, 0))) else (some (0, 0, t468)))
set_option maxHeartbeats 8000000 in
set_option maxRecDepth 100000 in
theorem axis_Lengths.calls (k : Nat) (A0 : Option Addr) (c0 : Nat) (l0 : List (S121)) (r1 : Int) (r2 : Int) (r3 : Int) (w : World) (hr0 : Kd.C k121 w A0 l0.length l0) (hc0 : l0.length ≤ c0) (h : axis_Lengths.f k l0 = some (r1, r2, r3)) :
  Calls Try.prog 58 #[.slice A0 l0.length c0] w fun e w' => e = .returned (.tuple #[.int .i64 r1, .int .i64 r2, .int .i64 r3]) ∧ Below w.heap.size w w' := by
 have HR0 := Aside0.mk hr0
 have HC0 := Aside0.mk hc0
 clear hr0 hc0
 have HB := Aside0.mk (Below.refl w.heap.size w)
 have H : ((axis_Check.f k l0).bind fun t468 => (if t468 = 0 then ((axis_lengths.f k l0).bind fun bt469 => (some (bt469.1, bt469.2, 0))) else (some (0, 0, t468)))) = some (r1, r2, r3) := h
 clear h
 replace H := Option.bind_eq_some_iff.mp H
 obtain ⟨t468, A20, H⟩ := H
 replace H : (if t468 = 0 then ((axis_lengths.f k l0).bind fun bt469 => (some (bt469.1, bt469.2, 0))) else (some (0, 0, t468))) = some (r1, r2, r3) := H
 have A2 := Aside0.mk A20
 clear A20
 by_cases c3 : t468 = 0
 ·rw [if_pos c3] at H
  have c3b0 : (t468 == 0) = true := beq_iff_eq.mpr c3
  have c3b1 : (t468 != 0) = false := bne_eq_false_iff_eq.mpr c3
  clear c3
  replace H := Option.bind_eq_some_iff.mp H
  obtain ⟨⟨t469, t470⟩, A40, H⟩ := H
  replace H : (some (t469, t470, 0)) = some (r1, r2, r3) := H
  have A4 := Aside0.mk A40
  clear A40
  simp only [Option.some.injEq, Prod.mk.injEq] at H
  obtain ⟨rfl, rfl, rfl⟩ := H
  go_enter Try.func58, Try.ntmps58
  go_wp2_with (first | ((with_reducible refine gate_callee (f := 69) rfl ?_); refine goesL_ (some 9) rfl rfl Try.func69 (by kernel_rfl) rfl #[.slice A0 l0.length c0] rfl (by (try simp only [List.map_toArray, List.map_cons, List.map_nil]); first | done | rfl | (simp only [List.length_drop, List.length_take]; rfl)) ?_; (with_reducible refine (axis_Check.calls k _ _ l0 t468 _ ?side1 ?side2 A2.out).mono ?_); (case side1 => repeat (first | exact HR0.out | (with_reducible refine Kd.C_alloc ?_ _) | (with_reducible refine Kd.C_drewN ?_ _) | (with_reducible refine Kd.C_drew ?_))); (case side2 => exact HC0.out); rintro e w5 ⟨rfl, hb⟩; refine ⟨_, rfl, ?_⟩; replace HB := Aside0.mk (below_step (by with_reducible repeat first | exact HB.out | apply below_alloc | apply pw_below_drewN | apply below_drew1) hb); (try clear hb); (try clear hb2); (try clear hk); (try clear hi)) | ((with_reducible refine gate_callee (f := 70) rfl ?_); refine goesL_ (some 15) rfl rfl Try.func70 (by kernel_rfl) rfl #[.slice A0 l0.length c0] rfl (by (try simp only [List.map_toArray, List.map_cons, List.map_nil]); first | done | rfl | (simp only [List.length_drop, List.length_take]; rfl)) ?_; (with_reducible refine (axis_lengths.calls k _ _ l0 t469 t470 _ ?side1 ?side2 A4.out).mono ?_); (case side1 => repeat (first | exact (Kd.C_below HR0.out HB.out) | (with_reducible refine Kd.C_alloc ?_ _) | (with_reducible refine Kd.C_drewN ?_ _) | (with_reducible refine Kd.C_drew ?_))); (case side2 => exact HC0.out); rintro e w6 ⟨rfl, hb⟩; refine ⟨_, rfl, ?_⟩; replace HB := Aside0.mk (below_step (by with_reducible repeat first | exact HB.out | apply below_alloc | apply pw_below_drewN | apply below_drew1) hb); (try clear hb); (try clear hb2); (try clear hk); (try clear hi)))
  go_ret3
  exact ⟨by first | rfl | (simp [errW_none, errW_some] <;> rfl) | (simp [*, errW_none, errW_some] <;> rfl), by repeat (first | (with_reducible first | exact HB.out | apply below_alloc | apply pw_below_drewN | apply below_drew1) | exact HB.out)⟩
 ·rw [if_neg c3] at H
  have c3b0 : (t468 == 0) = false := beq_eq_false_iff_ne.mpr c3
  have c3b1 : (t468 != 0) = true := bne_iff_ne.mpr c3
  simp only [Option.some.injEq, Prod.mk.injEq] at H
  obtain ⟨rfl, rfl, rfl⟩ := H
  go_enter Try.func58, Try.ntmps58
  go_wp2_with (first | ((with_reducible refine gate_callee (f := 69) rfl ?_); refine goesL_ (some 9) rfl rfl Try.func69 (by kernel_rfl) rfl #[.slice A0 l0.length c0] rfl (by (try simp only [List.map_toArray, List.map_cons, List.map_nil]); first | done | rfl | (simp only [List.length_drop, List.length_take]; rfl)) ?_; (with_reducible refine (axis_Check.calls k _ _ l0 t468 _ ?side1 ?side2 A2.out).mono ?_); (case side1 => repeat (first | exact HR0.out | (with_reducible refine Kd.C_alloc ?_ _) | (with_reducible refine Kd.C_drewN ?_ _) | (with_reducible refine Kd.C_drew ?_))); (case side2 => exact HC0.out); rintro e w7 ⟨rfl, hb⟩; refine ⟨_, rfl, ?_⟩; replace HB := Aside0.mk (below_step (by with_reducible repeat first | exact HB.out | apply below_alloc | apply pw_below_drewN | apply below_drew1) hb); (try clear hb); (try clear hb2); (try clear hk); (try clear hi)))
  go_ret3
  exact ⟨by first | rfl | (simp [errW_none, errW_some] <;> rfl) | (simp [*, errW_none, errW_some] <;> rfl), by repeat (first | (with_reducible first | exact HB.out | apply below_alloc | apply pw_below_drewN | apply below_drew1) | exact HB.out)⟩
mutual
def axis_Hull.l0 : Nat → Int → Int → Int → Int → Int → Int → List (S121) → Int → Int → Option (Int × Int)
 | 0, _, _, _, _, _, _, _, _, _ => none
 | k + 1, x1, x2, x8, x9, x10, x11, x16, x17, x18 => if x18 < x17 then (if 0 ≤ x18 then (if x18 < (x16.length : Int) then (if ((rd_T121 x16 x18).f0) = 0 then (axis_Hull.j1 k x1 x2 x8 x9 x10 x11 (mx x1 x10) (mn x2 (wrap64 (x10 + ((rd_T121 x16 x18).f1)))) x16 x17 x18 (decide ((mx x1 x10) < (mn x2 (wrap64 (x10 + ((rd_T121 x16 x18).f1)))))) ((rd_T121 x16 x18).f0) ((rd_T121 x16 x18).f1)) else (axis_Hull.j1 k x1 x2 x8 x9 x10 x11 (mx x1 x10) (mn x2 (wrap64 (x10 + ((rd_T121 x16 x18).f1)))) x16 x17 x18 false ((rd_T121 x16 x18).f0) ((rd_T121 x16 x18).f1))) else (none)) else (none)) else (some (x8, x9))
def axis_Hull.j1 : Nat → Int → Int → Int → Int → Int → Int → Int → Int → List (S121) → Int → Int → Bool → Int → Int → Option (Int × Int)
 | 0, _, _, _, _, _, _, _, _, _, _, _, _, _, _ => none
 | k + 1, x1, x2, x8, x9, x10, x11, x14, x15, x16, x17, x18, x38, x473000, x473001 => if x38 = true then (if x9 = 0 then (axis_Hull.j2 k x1 x2 (wrap64 ((wrap64 (x11 + x14)) - x10)) (wrap64 ((wrap64 (x11 + x15)) - x10)) x10 x11 x16 x17 x18 x473000 x473001) else (axis_Hull.j2 k x1 x2 x8 (wrap64 ((wrap64 (x11 + x15)) - x10)) x10 x11 x16 x17 x18 x473000 x473001)) else (axis_Hull.j2 k x1 x2 x8 x9 x10 x11 x16 x17 x18 x473000 x473001)
def axis_Hull.j2 : Nat → Int → Int → Int → Int → Int → Int → List (S121) → Int → Int → Int → Int → Option (Int × Int)
 | 0, _, _, _, _, _, _, _, _, _, _, _ => none
 | k + 1, x1, x2, x8, x9, x10, x11, x16, x17, x18, x473000, x473001 => if x473000 = 2 then (if x473000 = 1 then (axis_Hull.l0 k x1 x2 x8 x9 x10 x11 x16 x17 (wrap64 (x18 + 1))) else (axis_Hull.l0 k x1 x2 x8 x9 (wrap64 (x10 + x473001)) x11 x16 x17 (wrap64 (x18 + 1)))) else (if x473000 = 1 then (axis_Hull.l0 k x1 x2 x8 x9 x10 (wrap64 (x11 + x473001)) x16 x17 (wrap64 (x18 + 1))) else (axis_Hull.l0 k x1 x2 x8 x9 (wrap64 (x10 + x473001)) (wrap64 (x11 + x473001)) x16 x17 (wrap64 (x18 + 1))))
end
def axis_Hull.f (k : Nat) (l0 : List (S121)) (a1 : Int) (a2 : Int) : Option (Int × Int) := axis_Hull.l0 k a1 a2 0 0 0 0 l0 (l0.length : Int) 0
set_option maxHeartbeats 8000000 in
set_option maxRecDepth 100000 in
theorem axis_Hull.calls (k : Nat) (A0 : Option Addr) (c0 : Nat) (l0 : List (S121)) (a1 : Int) (a2 : Int) (r1 : Int) (r2 : Int) (w : World) (hr0 : Kd.C k121 w A0 l0.length l0) (hc0 : l0.length ≤ c0) (h : axis_Hull.f k l0 a1 a2 = some (r1, r2)) :
  Calls Try.prog 59 #[.slice A0 l0.length c0, .int .i64 a1, .int .i64 a2] w fun e w' => e = .returned (.tuple #[.int .i64 r1, .int .i64 r2]) ∧ Below w.heap.size w w' := by
 have hu121 := Try.underlying121
 have HR0 := Aside0.mk hr0
 have HC0 := Aside0.mk hc0
 clear hr0 hc0
 have HB := Aside0.mk (Below.refl w.heap.size w)
 have H : (axis_Hull.l0 k a1 a2 0 0 0 0 l0 (l0.length : Int) 0) = some (r1, r2) := h
 clear h
 have H' := Aside0.mk H
 clear H
 go_enter Try.func59, Try.ntmps59
 go_wp2
 repeat (go_quiet (fail); try go_wp2)
 go_loopg [8, 9, 10, 11, 18] k (fun kq v8 v9 v10 v11 v18 w' => ∃ (x8_1 : Int) (x9_1 : Int) (x10_1 : Int) (x11_1 : Int) (x18_1 : Int), v8 = .int .i64 x8_1 ∧ v9 = .int .i64 x9_1 ∧ v10 = .int .i64 x10_1 ∧ v11 = .int .i64 x11_1 ∧ v18 = .int .i64 x18_1 ∧ Aside0 (axis_Hull.l0 kq a1 a2 x8_1 x9_1 x10_1 x11_1 l0 (l0.length : Int) x18_1 = some (r1, r2)) ∧ Aside0 (kq ≤ k) ∧ Aside0 (Below w.heap.size w w'))
 case atStart => exact ⟨(0), (0), (0), (0), (0), (by first | rfl | (simp; done) | (simp [*]; done)), (by first | rfl | (simp; done) | (simp [*]; done)), (by first | rfl | (simp; done) | (simp [*]; done)), (by first | rfl | (simp; done) | (simp [*]; done)), (by first | rfl | (simp; done) | (simp [*]; done)), H', ⟨Nat.le_refl _⟩, ⟨by repeat (first | (with_reducible first | exact HB.out | apply below_alloc | apply pw_below_drewN | apply below_drew1) | exact HB.out)⟩⟩
 case round =>
  clear H'
  try clear p2
  obtain ⟨x8_1, x9_1, x10_1, x11_1, x18_1, rfl, rfl, rfl, rfl, rfl, HA, HK1, HB⟩ := hrel
  cases gk with
  | zero => exact absurd HA.out (by simp [axis_Hull.l0])
  | succ k1 =>
   have H := HA.out
   clear HA
   simp only [axis_Hull.l0] at H
   by_cases c4 : x18_1 < (l0.length : Int)
   ·rw [if_pos c4] at H
    have c4b0 : decide (x18_1 < (l0.length : Int)) = true := decide_eq_true c4
    clear c4
    by_cases c5 : 0 ≤ x18_1
    ·rw [if_pos c5] at H
     have c5b0 : decide (0 ≤ x18_1) = true := decide_eq_true c5
     clear c5
     by_cases c6 : x18_1 < (l0.length : Int)
     ·rw [if_pos c6] at H
      have c6b0 : decide (x18_1 < (l0.length : Int)) = true := decide_eq_true c6
      clear c6
      obtain ⟨ji7, hji7⟩ : ∃ j_ : Int, (mx a1 x10_1) = j_ := ⟨_, rfl⟩
      replace H : (if ((rd_T121 l0 x18_1).f0) = 0 then (axis_Hull.j1 k1 a1 a2 x8_1 x9_1 x10_1 x11_1 ji7 (mn a2 (wrap64 (x10_1 + ((rd_T121 l0 x18_1).f1)))) l0 (l0.length : Int) x18_1 (decide ((ji7) < (mn a2 (wrap64 (x10_1 + ((rd_T121 l0 x18_1).f1)))))) ((rd_T121 l0 x18_1).f0) ((rd_T121 l0 x18_1).f1)) else (axis_Hull.j1 k1 a1 a2 x8_1 x9_1 x10_1 x11_1 ji7 (mn a2 (wrap64 (x10_1 + ((rd_T121 l0 x18_1).f1)))) l0 (l0.length : Int) x18_1 false ((rd_T121 l0 x18_1).f0) ((rd_T121 l0 x18_1).f1))) = some (r1, r2) := by first | (rw [hji7] at H; exact H) | (simp only [hji7] at H ⊢; exact H)
      have hji7_ : (if a1 < x10_1 then x10_1 else a1) = ji7 := hji7
      obtain ⟨ji8, hji8⟩ : ∃ j_ : Int, (mn a2 (wrap64 (x10_1 + ((rd_T121 l0 x18_1).f1)))) = j_ := ⟨_, rfl⟩
      replace H : (if ((rd_T121 l0 x18_1).f0) = 0 then (axis_Hull.j1 k1 a1 a2 x8_1 x9_1 x10_1 x11_1 ji7 ji8 l0 (l0.length : Int) x18_1 (decide ((ji7) < (ji8))) ((rd_T121 l0 x18_1).f0) ((rd_T121 l0 x18_1).f1)) else (axis_Hull.j1 k1 a1 a2 x8_1 x9_1 x10_1 x11_1 ji7 ji8 l0 (l0.length : Int) x18_1 false ((rd_T121 l0 x18_1).f0) ((rd_T121 l0 x18_1).f1))) = some (r1, r2) := by first | (rw [hji8] at H; exact H) | (simp only [hji8] at H ⊢; exact H)
      have hji8_ : (if (wrap64 (x10_1 + ((rd_T121 l0 x18_1).f1))) < a2 then (wrap64 (x10_1 + ((rd_T121 l0 x18_1).f1))) else a2) = ji8 := hji8
      have HC9 := Aside0.mk H
      clear H
      have p471 : 0 ≤ (x18_1 : Int) := of_decide_eq_true (by assumption)
      have q471 : x18_1 < (l0.length : Int) := of_decide_eq_true (by assumption)
      obtain ⟨ad471, e471, hx471_0, hx471_1⟩ := at_T121 HR0.out x18_1 p471 q471
      cases e471
      replace hx471_0 := (HB.out.cell (World.block_lt_of_cell? w _ hx471_0)).trans hx471_0
      replace hx471_1 := (HB.out.cell (World.block_lt_of_cell? w _ hx471_1)).trans hx471_1
      replace p471 := eq_true p471
      replace q471 := eq_true q471
      go_upto_region 6 with (first | ((with_reducible refine gate_dst (N := 13) rfl ?_); refine box_event ?hg (N := 13) ?hd (cs := #[.int .i64 0, .int .i64 0]) (t := 121) ?hr ?_; (case hd => rfl); (case hg => rfl); (case hr => first | (go_simp; done) | (go_simp; rfl)); intro gb472 hg w10 hbox hb; have n0_ := Aside0.mk (below_step (by with_reducible repeat first | exact HB.out | apply below_alloc | apply pw_below_drewN | apply below_drew1) hb); have n1_ := Aside0.mk (hbox); have n2_ := Aside0.mk ((by rw [hg]; exact (below_size (by with_reducible repeat first | exact HB.out | apply below_alloc | apply pw_below_drewN | apply below_drew1)) : w.heap.size ≤ gb472)); have n3_ := Aside0.mk ((by rw [hg]; exact (below_size (by with_reducible repeat first | exact HB.out | apply below_alloc | apply pw_below_drewN | apply below_drew1)) : w.heap.size ≤ gb472)); clear HB; have HB := n0_; have BK472 := n1_; have GW472 := n2_; have GE472 := n3_; clear n0_ n1_ n2_ n3_; clear hb hbox hg; have hcz11_0 : w10.cell? ⟨gb472, 0, none⟩ = some (.int .i64 0) := (blk_cell BK472.out 0).trans rfl; have hcz11_1 : w10.cell? ⟨gb472, 1, none⟩ = some (.int .i64 0) := (blk_cell BK472.out 1).trans rfl; have hfz11_0 := blk_frozen BK472.out 0; have hfz11_1 := blk_frozen BK472.out 1))
      repeat (go_quiet (first | ((with_reducible refine gate_dst (N := 13) rfl ?_); refine box_event ?hg (N := 13) ?hd (cs := #[.int .i64 0, .int .i64 0]) (t := 121) ?hr ?_; (case hd => rfl); (case hg => rfl); (case hr => first | (go_simp; done) | (go_simp; rfl)); intro gb472 hg w10 hbox hb; have n0_ := Aside0.mk (below_step (by with_reducible repeat first | exact HB.out | apply below_alloc | apply pw_below_drewN | apply below_drew1) hb); have n1_ := Aside0.mk (hbox); have n2_ := Aside0.mk ((by rw [hg]; exact (below_size (by with_reducible repeat first | exact HB.out | apply below_alloc | apply pw_below_drewN | apply below_drew1)) : w.heap.size ≤ gb472)); have n3_ := Aside0.mk ((by rw [hg]; exact (below_size (by with_reducible repeat first | exact HB.out | apply below_alloc | apply pw_below_drewN | apply below_drew1)) : w.heap.size ≤ gb472)); clear HB; have HB := n0_; have BK472 := n1_; have GW472 := n2_; have GE472 := n3_; clear n0_ n1_ n2_ n3_; clear hb hbox hg; have hcz11_0 : w10.cell? ⟨gb472, 0, none⟩ = some (.int .i64 0) := (blk_cell BK472.out 0).trans rfl; have hcz11_1 : w10.cell? ⟨gb472, 1, none⟩ = some (.int .i64 0) := (blk_cell BK472.out 1).trans rfl; have hfz11_0 := blk_frozen BK472.out 0; have hfz11_1 := blk_frozen BK472.out 1)); go_upto_region 6 with (first | ((with_reducible refine gate_dst (N := 13) rfl ?_); refine box_event ?hg (N := 13) ?hd (cs := #[.int .i64 0, .int .i64 0]) (t := 121) ?hr ?_; (case hd => rfl); (case hg => rfl); (case hr => first | (go_simp; done) | (go_simp; rfl)); intro gb472 hg w10 hbox hb; have n0_ := Aside0.mk (below_step (by with_reducible repeat first | exact HB.out | apply below_alloc | apply pw_below_drewN | apply below_drew1) hb); have n1_ := Aside0.mk (hbox); have n2_ := Aside0.mk ((by rw [hg]; exact (below_size (by with_reducible repeat first | exact HB.out | apply below_alloc | apply pw_below_drewN | apply below_drew1)) : w.heap.size ≤ gb472)); have n3_ := Aside0.mk ((by rw [hg]; exact (below_size (by with_reducible repeat first | exact HB.out | apply below_alloc | apply pw_below_drewN | apply below_drew1)) : w.heap.size ≤ gb472)); clear HB; have HB := n0_; have BK472 := n1_; have GW472 := n2_; have GE472 := n3_; clear n0_ n1_ n2_ n3_; clear hb hbox hg; have hcz11_0 : w10.cell? ⟨gb472, 0, none⟩ = some (.int .i64 0) := (blk_cell BK472.out 0).trans rfl; have hcz11_1 : w10.cell? ⟨gb472, 1, none⟩ = some (.int .i64 0) := (blk_cell BK472.out 1).trans rfl; have hfz11_0 := blk_frozen BK472.out 0; have hfz11_1 := blk_frozen BK472.out 1)))
      (try simp only [Act.put, List.setIfInBounds_toArray, List.set_cons_zero, List.set_cons_succ])
      go_cut [38] (fun v38 wc => ∃ (kq : Nat) (x38_8 : Bool), v38 = .bool x38_8 ∧ Aside0 (axis_Hull.j1 kq a1 a2 x8_1 x9_1 x10_1 x11_1 ji7 ji8 l0 (l0.length : Int) x18_1 x38_8 ((rd_T121 l0 x18_1).f0) ((rd_T121 l0 x18_1).f1) = some (r1, r2)) ∧ Aside0 (kq ≤ k1) ∧ Aside0 (wc.heap[gb472]? = some (.cells #[.int .i64 ((rd_T121 l0 x18_1).f0), .int .i64 ((rd_T121 l0 x18_1).f1)] 121 (0, 0))) ∧ Aside0 (Below w.heap.size w wc))
      case first =>
       have H := HC9.out
       clear HC9
       by_cases c12 : ((rd_T121 l0 x18_1).f0) = 0
       ·rw [if_pos c12] at H
        have c12b0 : (((rd_T121 l0 x18_1).f0) == 0) = true := beq_iff_eq.mpr c12
        have c12b1 : (((rd_T121 l0 x18_1).f0) != 0) = false := bne_eq_false_iff_eq.mpr c12
        clear c12
        (first | rw [c12b0] | (simp only [i64_w, i32_w]; rw [c12b0]) | skip)
        have H' := Aside0.mk H
        clear H
        have hcz13_0 : w10.cell? ⟨gb472, 0, none⟩ = some (.int .i64 0) := (blk_cell BK472.out 0).trans rfl
        have hcz13_1 : w10.cell? ⟨gb472, 1, none⟩ = some (.int .i64 0) := (blk_cell BK472.out 1).trans rfl
        have hfz13_0 := blk_frozen BK472.out 0
        have hfz13_1 := blk_frozen BK472.out 1
        go_wp2
        repeat (go_quiet (fail); try go_wp2)
        go_meet
        case rel => exact ⟨_, (decide ((ji7) < (ji8))), (by first | rfl | (simp; done) | (simp only [← hji7, ← hji8] <;> (first | rfl | simp)) | (simp [*]; done)), H', ⟨by have := HK1.out; first | omega | exact Nat.le_refl _⟩, ⟨by (with_reducible repeat (first | refine blk_drewN ?_ _ | refine blk_drew ?_ | refine blk_alloc ?_ _)); refine blk_put (cs := #[.int .i64 ((rd_T121 l0 x18_1).f0), .int .i64 0]) ?_ 1 _ rfl; (with_reducible repeat (first | refine blk_drewN ?_ _ | refine blk_drew ?_ | refine blk_alloc ?_ _)); refine blk_put (cs := #[.int .i64 0, .int .i64 0]) ?_ 0 _ rfl; (with_reducible repeat (first | refine blk_drewN ?_ _ | refine blk_drew ?_ | refine blk_alloc ?_ _)); exact BK472.out⟩, ⟨by repeat (first | (with_reducible first | exact HB.out | apply below_alloc | apply pw_below_drewN | apply below_drew1 | refine below_set ?_ GE472.out) | exact HB.out)⟩⟩
       ·rw [if_neg c12] at H
        have c12b0 : (((rd_T121 l0 x18_1).f0) == 0) = false := beq_eq_false_iff_ne.mpr c12
        have c12b1 : (((rd_T121 l0 x18_1).f0) != 0) = true := bne_iff_ne.mpr c12
        (first | rw [c12b0] | (simp only [i64_w, i32_w]; rw [c12b0]) | skip)
        have H' := Aside0.mk H
        clear H
        have hcz14_0 : w10.cell? ⟨gb472, 0, none⟩ = some (.int .i64 0) := (blk_cell BK472.out 0).trans rfl
        have hcz14_1 : w10.cell? ⟨gb472, 1, none⟩ = some (.int .i64 0) := (blk_cell BK472.out 1).trans rfl
        have hfz14_0 := blk_frozen BK472.out 0
        have hfz14_1 := blk_frozen BK472.out 1
        go_wp2
        repeat (go_quiet (fail); try go_wp2)
        go_meet
        case rel => exact ⟨_, (false), (by first | rfl | (simp; done) | (simp [*]; done)), H', ⟨by have := HK1.out; first | omega | exact Nat.le_refl _⟩, ⟨by (with_reducible repeat (first | refine blk_drewN ?_ _ | refine blk_drew ?_ | refine blk_alloc ?_ _)); refine blk_put (cs := #[.int .i64 ((rd_T121 l0 x18_1).f0), .int .i64 0]) ?_ 1 _ rfl; (with_reducible repeat (first | refine blk_drewN ?_ _ | refine blk_drew ?_ | refine blk_alloc ?_ _)); refine blk_put (cs := #[.int .i64 0, .int .i64 0]) ?_ 0 _ rfl; (with_reducible repeat (first | refine blk_drewN ?_ _ | refine blk_drew ?_ | refine blk_alloc ?_ _)); exact BK472.out⟩, ⟨by repeat (first | (with_reducible first | exact HB.out | apply below_alloc | apply pw_below_drewN | apply below_drew1 | refine below_set ?_ GE472.out) | exact HB.out)⟩⟩
      case rest =>
       clear HC9
       try clear c1
       try clear p2
       try clear c4
       try clear c4b0
       try clear p4
       try clear q4
       try clear hx4
       try clear c5
       try clear c5b0
       try clear c6
       try clear c6b0
       try clear p6
       try clear c12
       try clear c12b0
       try clear c12b1
       try clear hcz11_0
       try clear hcz11_1
       try clear hcz13_0
       try clear hcz13_1
       try clear hcz14_0
       try clear hcz14_1
       try clear hfz11_0
       try clear hfz11_1
       try clear hfz13_0
       try clear hfz13_1
       try clear hfz14_0
       try clear hfz14_1
       try clear hx471_0
       try clear hx471_1
       try clear p2
       try clear p471
       try clear q471
       obtain ⟨kq, x38_8, rfl, HA, HJ8, BK472, HB⟩ := hcut
       cases kq with
       | zero => exact absurd HA.out (by simp [axis_Hull.j1])
       | succ kj8 =>
        have H := HA.out
        clear HA
        simp only [axis_Hull.j1] at H
        have HC15 := Aside0.mk H
        clear H
        go_upto_if 38 with (fail)
        repeat (go_quiet (fail); go_upto_if 38 with (fail))
        go_cut [8, 9] (fun v8 v9 wc => ∃ (kq : Nat) (x8_14 : Int) (x9_14 : Int), v8 = .int .i64 x8_14 ∧ v9 = .int .i64 x9_14 ∧ Aside0 (axis_Hull.j2 kq a1 a2 x8_14 x9_14 x10_1 x11_1 l0 (l0.length : Int) x18_1 ((rd_T121 l0 x18_1).f0) ((rd_T121 l0 x18_1).f1) = some (r1, r2)) ∧ Aside0 (kq ≤ kj8) ∧ Aside0 (wc.heap[gb472]? = some (.cells #[.int .i64 ((rd_T121 l0 x18_1).f0), .int .i64 ((rd_T121 l0 x18_1).f1)] 121 (0, 0))) ∧ Aside0 (Below w.heap.size w wc))
        case first =>
         have H := HC15.out
         clear HC15
         by_cases c16 : x38_8 = true
         ·subst c16
          have H1 : (if x9_1 = 0 then (axis_Hull.j2 kj8 a1 a2 (wrap64 ((wrap64 (x11_1 + ji7)) - x10_1)) (wrap64 ((wrap64 (x11_1 + ji8)) - x10_1)) x10_1 x11_1 l0 (l0.length : Int) x18_1 ((rd_T121 l0 x18_1).f0) ((rd_T121 l0 x18_1).f1)) else (axis_Hull.j2 kj8 a1 a2 x8_1 (wrap64 ((wrap64 (x11_1 + ji8)) - x10_1)) x10_1 x11_1 l0 (l0.length : Int) x18_1 ((rd_T121 l0 x18_1).f0) ((rd_T121 l0 x18_1).f1))) = some (r1, r2) := by rw [if_pos rfl] at H; exact H
          clear H
          have H := H1
          clear H1
          by_cases c17 : x9_1 = 0
          ·rw [if_pos c17] at H
           have c17b0 : (x9_1 == 0) = true := beq_iff_eq.mpr c17
           have c17b1 : (x9_1 != 0) = false := bne_eq_false_iff_eq.mpr c17
           clear c17
           (first | rw [c17b0] | (simp only [i64_w, i32_w]; rw [c17b0]) | skip)
           have H' := Aside0.mk H
           clear H
           go_wp2
           repeat (go_quiet (fail); try go_wp2)
           go_meet
           case rel => exact ⟨_, (wrap64 ((wrap64 (x11_1 + ji7)) - x10_1)), (wrap64 ((wrap64 (x11_1 + ji8)) - x10_1)), (by first | rfl | (simp; done) | (simp only [← hji7] <;> (first | rfl | simp)) | (simp [*]; done)), (by first | rfl | (simp; done) | (simp only [← hji8] <;> (first | rfl | simp)) | (simp [*]; done)), H', ⟨by have := HK1.out; have := HJ8.out; first | omega | exact Nat.le_refl _⟩, ⟨by (with_reducible repeat (first | refine blk_drewN ?_ _ | refine blk_drew ?_ | refine blk_alloc ?_ _)); exact BK472.out⟩, ⟨by repeat (first | (with_reducible first | exact HB.out | apply below_alloc | apply pw_below_drewN | apply below_drew1 | refine below_set ?_ GE472.out) | exact HB.out)⟩⟩
          ·rw [if_neg c17] at H
           have c17b0 : (x9_1 == 0) = false := beq_eq_false_iff_ne.mpr c17
           have c17b1 : (x9_1 != 0) = true := bne_iff_ne.mpr c17
           (first | rw [c17b0] | (simp only [i64_w, i32_w]; rw [c17b0]) | skip)
           have H' := Aside0.mk H
           clear H
           go_wp2
           repeat (go_quiet (fail); try go_wp2)
           go_meet
           case rel => exact ⟨_, (x8_1), (wrap64 ((wrap64 (x11_1 + ji8)) - x10_1)), (by first | rfl | (simp; done) | (simp [*]; done)), (by first | rfl | (simp; done) | (simp only [← hji8] <;> (first | rfl | simp)) | (simp [*]; done)), H', ⟨by have := HK1.out; have := HJ8.out; first | omega | exact Nat.le_refl _⟩, ⟨by (with_reducible repeat (first | refine blk_drewN ?_ _ | refine blk_drew ?_ | refine blk_alloc ?_ _)); exact BK472.out⟩, ⟨by repeat (first | (with_reducible first | exact HB.out | apply below_alloc | apply pw_below_drewN | apply below_drew1 | refine below_set ?_ GE472.out) | exact HB.out)⟩⟩
         ·replace c16 := Bool.eq_false_iff.mpr c16
          subst c16
          have H1 : (axis_Hull.j2 kj8 a1 a2 x8_1 x9_1 x10_1 x11_1 l0 (l0.length : Int) x18_1 ((rd_T121 l0 x18_1).f0) ((rd_T121 l0 x18_1).f1)) = some (r1, r2) := by rw [if_neg (show ¬ (false = true) by decide)] at H; exact H
          clear H
          have H := H1
          clear H1
          have H' := Aside0.mk H
          clear H
          go_wp2
          repeat (go_quiet (fail); try go_wp2)
          go_meet
          case rel => exact ⟨_, (x8_1), (x9_1), (by first | rfl | (simp; done) | (simp [*]; done)), (by first | rfl | (simp; done) | (simp [*]; done)), H', ⟨by have := HK1.out; have := HJ8.out; first | omega | exact Nat.le_refl _⟩, ⟨by (with_reducible repeat (first | refine blk_drewN ?_ _ | refine blk_drew ?_ | refine blk_alloc ?_ _)); exact BK472.out⟩, ⟨by repeat (first | (with_reducible first | exact HB.out | apply below_alloc | apply pw_below_drewN | apply below_drew1 | refine below_set ?_ GE472.out) | exact HB.out)⟩⟩
        case rest =>
         clear HC15
         try clear c1
         try clear p2
         try clear c4
         try clear c4b0
         try clear p4
         try clear q4
         try clear hx4
         try clear c5
         try clear c5b0
         try clear c6
         try clear c6b0
         try clear p6
         try clear c12
         try clear c12b0
         try clear c12b1
         try clear c16
         try clear c17
         try clear c17b0
         try clear c17b1
         try clear hcz11_0
         try clear hcz11_1
         try clear hcz13_0
         try clear hcz13_1
         try clear hcz14_0
         try clear hcz14_1
         try clear hfz11_0
         try clear hfz11_1
         try clear hfz13_0
         try clear hfz13_1
         try clear hfz14_0
         try clear hfz14_1
         try clear hx471_0
         try clear hx471_1
         try clear p2
         try clear p4
         try clear p471
         try clear p6
         try clear q4
         try clear q471
         obtain ⟨kq, x8_14, x9_14, rfl, rfl, HA, HJ14, BK472, HB⟩ := hcut
         cases kq with
         | zero => exact absurd HA.out (by simp [axis_Hull.j2])
         | succ kj14 =>
          have H := HA.out
          clear HA
          simp only [axis_Hull.j2] at H
          by_cases c18 : ((rd_T121 l0 x18_1).f0) = 2
          ·rw [if_pos c18] at H
           have c18b0 : (((rd_T121 l0 x18_1).f0) == 2) = true := beq_iff_eq.mpr c18
           have c18b1 : (((rd_T121 l0 x18_1).f0) != 2) = false := bne_eq_false_iff_eq.mpr c18
           clear c18
           by_cases c19 : ((rd_T121 l0 x18_1).f0) = 1
           ·rw [if_pos c19] at H
            have c19b0 : (((rd_T121 l0 x18_1).f0) == 1) = true := beq_iff_eq.mpr c19
            have c19b1 : (((rd_T121 l0 x18_1).f0) != 1) = false := bne_eq_false_iff_eq.mpr c19
            clear c19
            have H' := Aside0.mk H
            clear H
            have hcz20_0 : wc.cell? ⟨gb472, 0, none⟩ = some (.int .i64 ((rd_T121 l0 x18_1).f0)) := (blk_cell BK472.out 0).trans rfl
            have hcz20_1 : wc.cell? ⟨gb472, 1, none⟩ = some (.int .i64 ((rd_T121 l0 x18_1).f1)) := (blk_cell BK472.out 1).trans rfl
            have hfz20_0 := blk_frozen BK472.out 0
            have hfz20_1 := blk_frozen BK472.out 1
            go_wp2
            repeat (go_quiet (fail); try go_wp2)
            go_roundg kj14
            case measure => have := HK1.out; have := HJ8.out; have := HJ14.out; omega
            case rel => exact ⟨(x8_14), (x9_14), (x10_1), (x11_1), (wrap64 (x18_1 + 1)), (by first | rfl | (simp; done) | (simp [*]; done)), (by first | rfl | (simp; done) | (simp [*]; done)), (by first | rfl | (simp; done) | (simp [*]; done)), (by first | rfl | (simp; done) | (simp [*]; done)), (by first | rfl | (simp; done) | (simp [*]; done)), H', ⟨by have := HK1.out; have := HJ8.out; have := HJ14.out; omega⟩, ⟨by repeat (first | (with_reducible first | exact HB.out | apply below_alloc | apply pw_below_drewN | apply below_drew1 | refine below_set ?_ GE472.out) | exact HB.out)⟩⟩
           ·rw [if_neg c19] at H
            have c19b0 : (((rd_T121 l0 x18_1).f0) == 1) = false := beq_eq_false_iff_ne.mpr c19
            have c19b1 : (((rd_T121 l0 x18_1).f0) != 1) = true := bne_iff_ne.mpr c19
            have H' := Aside0.mk H
            clear H
            have hcz21_0 : wc.cell? ⟨gb472, 0, none⟩ = some (.int .i64 ((rd_T121 l0 x18_1).f0)) := (blk_cell BK472.out 0).trans rfl
            have hcz21_1 : wc.cell? ⟨gb472, 1, none⟩ = some (.int .i64 ((rd_T121 l0 x18_1).f1)) := (blk_cell BK472.out 1).trans rfl
            have hfz21_0 := blk_frozen BK472.out 0
            have hfz21_1 := blk_frozen BK472.out 1
            go_wp2
            repeat (go_quiet (fail); try go_wp2)
            go_roundg kj14
            case measure => have := HK1.out; have := HJ8.out; have := HJ14.out; omega
            case rel => exact ⟨(x8_14), (x9_14), (wrap64 (x10_1 + ((rd_T121 l0 x18_1).f1))), (x11_1), (wrap64 (x18_1 + 1)), (by first | rfl | (simp; done) | (simp [*]; done)), (by first | rfl | (simp; done) | (simp [*]; done)), (by first | rfl | (simp; done) | (simp [*]; done)), (by first | rfl | (simp; done) | (simp [*]; done)), (by first | rfl | (simp; done) | (simp [*]; done)), H', ⟨by have := HK1.out; have := HJ8.out; have := HJ14.out; omega⟩, ⟨by repeat (first | (with_reducible first | exact HB.out | apply below_alloc | apply pw_below_drewN | apply below_drew1 | refine below_set ?_ GE472.out) | exact HB.out)⟩⟩
          ·rw [if_neg c18] at H
           have c18b0 : (((rd_T121 l0 x18_1).f0) == 2) = false := beq_eq_false_iff_ne.mpr c18
           have c18b1 : (((rd_T121 l0 x18_1).f0) != 2) = true := bne_iff_ne.mpr c18
           by_cases c22 : ((rd_T121 l0 x18_1).f0) = 1
           ·rw [if_pos c22] at H
            have c22b0 : (((rd_T121 l0 x18_1).f0) == 1) = true := beq_iff_eq.mpr c22
            have c22b1 : (((rd_T121 l0 x18_1).f0) != 1) = false := bne_eq_false_iff_eq.mpr c22
            clear c22
            have H' := Aside0.mk H
            clear H
            have hcz23_0 : wc.cell? ⟨gb472, 0, none⟩ = some (.int .i64 ((rd_T121 l0 x18_1).f0)) := (blk_cell BK472.out 0).trans rfl
            have hcz23_1 : wc.cell? ⟨gb472, 1, none⟩ = some (.int .i64 ((rd_T121 l0 x18_1).f1)) := (blk_cell BK472.out 1).trans rfl
            have hfz23_0 := blk_frozen BK472.out 0
            have hfz23_1 := blk_frozen BK472.out 1
            go_wp2
            repeat (go_quiet (fail); try go_wp2)
            go_roundg kj14
            case measure => have := HK1.out; have := HJ8.out; have := HJ14.out; omega
            case rel => exact ⟨(x8_14), (x9_14), (x10_1), (wrap64 (x11_1 + ((rd_T121 l0 x18_1).f1))), (wrap64 (x18_1 + 1)), (by first | rfl | (simp; done) | (simp [*]; done)), (by first | rfl | (simp; done) | (simp [*]; done)), (by first | rfl | (simp; done) | (simp [*]; done)), (by first | rfl | (simp; done) | (simp [*]; done)), (by first | rfl | (simp; done) | (simp [*]; done)), H', ⟨by have := HK1.out; have := HJ8.out; have := HJ14.out; omega⟩, ⟨by repeat (first | (with_reducible first | exact HB.out | apply below_alloc | apply pw_below_drewN | apply below_drew1 | refine below_set ?_ GE472.out) | exact HB.out)⟩⟩
           ·rw [if_neg c22] at H
            have c22b0 : (((rd_T121 l0 x18_1).f0) == 1) = false := beq_eq_false_iff_ne.mpr c22
            have c22b1 : (((rd_T121 l0 x18_1).f0) != 1) = true := bne_iff_ne.mpr c22
            have H' := Aside0.mk H
            clear H
            have hcz24_0 : wc.cell? ⟨gb472, 0, none⟩ = some (.int .i64 ((rd_T121 l0 x18_1).f0)) := (blk_cell BK472.out 0).trans rfl
            have hcz24_1 : wc.cell? ⟨gb472, 1, none⟩ = some (.int .i64 ((rd_T121 l0 x18_1).f1)) := (blk_cell BK472.out 1).trans rfl
            have hfz24_0 := blk_frozen BK472.out 0
            have hfz24_1 := blk_frozen BK472.out 1
            go_wp2
            repeat (go_quiet (fail); try go_wp2)
            go_roundg kj14
            case measure => have := HK1.out; have := HJ8.out; have := HJ14.out; omega
            case rel => exact ⟨(x8_14), (x9_14), (wrap64 (x10_1 + ((rd_T121 l0 x18_1).f1))), (wrap64 (x11_1 + ((rd_T121 l0 x18_1).f1))), (wrap64 (x18_1 + 1)), (by first | rfl | (simp; done) | (simp [*]; done)), (by first | rfl | (simp; done) | (simp [*]; done)), (by first | rfl | (simp; done) | (simp [*]; done)), (by first | rfl | (simp; done) | (simp [*]; done)), (by first | rfl | (simp; done) | (simp [*]; done)), H', ⟨by have := HK1.out; have := HJ8.out; have := HJ14.out; omega⟩, ⟨by repeat (first | (with_reducible first | exact HB.out | apply below_alloc | apply pw_below_drewN | apply below_drew1 | refine below_set ?_ GE472.out) | exact HB.out)⟩⟩
     ·rw [if_neg c6] at H
      exact absurd H (by simp)
    ·rw [if_neg c5] at H
     exact absurd H (by simp)
   ·rw [if_neg c4] at H
    have c4b0 : decide (x18_1 < (l0.length : Int)) = false := decide_eq_false c4
    clear c4
    simp only [Option.some.injEq, Prod.mk.injEq] at H
    obtain ⟨rfl, rfl⟩ := H
    go_wp2
    repeat (go_quiet (fail); try go_wp2)
    go_ret2
    exact ⟨by first | rfl | (simp [errW_none, errW_some] <;> rfl) | (simp [*, errW_none, errW_some] <;> rfl), by repeat (first | (with_reducible first | exact HB.out | apply below_alloc | apply pw_below_drewN | apply below_drew1) | exact HB.out)⟩
mutual
def span_Through.j0 : Nat → List (S44) → List (S121) → Bool → Option ((List (S44)) × Int)
 | 0, _, _, _ => none
 | k + 1, x1, x6, x49 => if x49 = true then (some (([] : List (S44)), 2)) else (span_Through.l0 k x6 ([] : List (S44)) x1 (x1.length : Int) 0)
def span_Through.l0 : Nat → List (S121) → List (S44) → List (S44) → Int → Int → Option ((List (S44)) × Int)
 | 0, _, _, _, _, _ => none
 | k + 1, x6, x12, x50, x51, x52 => if x52 < x51 then (if 0 ≤ x52 then (if x52 < (x50.length : Int) then ((axis_Hull.f k x6 ((rd_T44 x50 x52).f0) ((rd_T44 x50 x52).f1)).bind fun bt484 => (if bt484.1 < bt484.2 then ((span_add.f x12 bt484.1 bt484.2).bind fun t486 => (span_Through.l0 k x6 t486 x50 x51 (wrap64 (x52 + 1)))) else (span_Through.l0 k x6 x12 x50 x51 (wrap64 (x52 + 1))))) else (none)) else (none)) else (some (x12, 0))
end
def span_Through.f (k : Nat) (l0 : List (S95)) (l1 : List (S44)) : Option ((List (S44)) × Int) := (delta_Axis.f k l0).bind fun bt473 => (if bt473.2 = 0 then ((span_Check.f k l1).bind fun t477 => (if t477 = 0 then ((axis_Lengths.f k bt473.1).bind fun bt478 => (if (l1.length : Int) > 0 then (if 0 ≤ (wrap64 ((l1.length : Int) - 1)) then (if (wrap64 ((l1.length : Int) - 1)) < (l1.length : Int) then (span_Through.j0 k l1 bt473.1 (decide (((rd_T44 l1 (wrap64 ((l1.length : Int) - 1))).f1) > bt478.1))) else (none)) else (none)) else (span_Through.j0 k l1 bt473.1 false))) else (some (([] : List (S44)), t477)))) else (some (([] : List (S44)), bt473.2)))
set_option maxHeartbeats 8000000 in
set_option maxRecDepth 100000 in
theorem span_Through.calls (k : Nat) (A0 : Option Addr) (c0 : Nat) (l0 : List (S95)) (A1 : Option Addr) (c1 : Nat) (l1 : List (S44)) (r1 : List (S44)) (r2 : Int) (w : World) (hr0 : Kd.C k95 w A0 l0.length l0) (hc0 : l0.length ≤ c0) (hr1 : Kd.C k44 w A1 l1.length l1) (hc1 : l1.length ≤ c1) (h : span_Through.f k l0 l1 = some (r1, r2)) :
  Calls Try.prog 23 #[.slice A0 l0.length c0, .slice A1 l1.length c1] w fun e w' => ∃ v0_ : Value, e = .returned (.tuple #[v0_, .int .i64 r2]) ∧ Kd.R k44 44 w' w.heap.size (fun _ => True) v0_ r1 ∧ Below w.heap.size w w' := by
 have hu44 := Try.underlying44
 have HR0 := Aside0.mk hr0
 have HC0 := Aside0.mk hc0
 clear hr0 hc0
 have HR1 := Aside0.mk hr1
 have HC1 := Aside0.mk hc1
 clear hr1 hc1
 have HB := Aside0.mk (Below.refl w.heap.size w)
 have H : ((delta_Axis.f k l0).bind fun bt473 => (if bt473.2 = 0 then ((span_Check.f k l1).bind fun t477 => (if t477 = 0 then ((axis_Lengths.f k bt473.1).bind fun bt478 => (if (l1.length : Int) > 0 then (if 0 ≤ (wrap64 ((l1.length : Int) - 1)) then (if (wrap64 ((l1.length : Int) - 1)) < (l1.length : Int) then (span_Through.j0 k l1 bt473.1 (decide (((rd_T44 l1 (wrap64 ((l1.length : Int) - 1))).f1) > bt478.1))) else (none)) else (none)) else (span_Through.j0 k l1 bt473.1 false))) else (some (([] : List (S44)), t477)))) else (some (([] : List (S44)), bt473.2)))) = some (r1, r2) := h
 clear h
 replace H := Option.bind_eq_some_iff.mp H
 obtain ⟨⟨t473, t474⟩, A30, H⟩ := H
 replace H : (if t474 = 0 then ((span_Check.f k l1).bind fun t477 => (if t477 = 0 then ((axis_Lengths.f k t473).bind fun bt478 => (if (l1.length : Int) > 0 then (if 0 ≤ (wrap64 ((l1.length : Int) - 1)) then (if (wrap64 ((l1.length : Int) - 1)) < (l1.length : Int) then (span_Through.j0 k l1 t473 (decide (((rd_T44 l1 (wrap64 ((l1.length : Int) - 1))).f1) > bt478.1))) else (none)) else (none)) else (span_Through.j0 k l1 t473 false))) else (some (([] : List (S44)), t477)))) else (some (([] : List (S44)), t474))) = some (r1, r2) := H
 have A3 := Aside0.mk A30
 clear A30
 by_cases c4 : t474 = 0
 ·rw [if_pos c4] at H
  have c4b0 : (t474 == 0) = true := beq_iff_eq.mpr c4
  have c4b1 : (t474 != 0) = false := bne_eq_false_iff_eq.mpr c4
  clear c4
  replace H := Option.bind_eq_some_iff.mp H
  obtain ⟨t477, A50, H⟩ := H
  replace H : (if t477 = 0 then ((axis_Lengths.f k t473).bind fun bt478 => (if (l1.length : Int) > 0 then (if 0 ≤ (wrap64 ((l1.length : Int) - 1)) then (if (wrap64 ((l1.length : Int) - 1)) < (l1.length : Int) then (span_Through.j0 k l1 t473 (decide (((rd_T44 l1 (wrap64 ((l1.length : Int) - 1))).f1) > bt478.1))) else (none)) else (none)) else (span_Through.j0 k l1 t473 false))) else (some (([] : List (S44)), t477))) = some (r1, r2) := H
  have A5 := Aside0.mk A50
  clear A50
  by_cases c6 : t477 = 0
  ·rw [if_pos c6] at H
   have c6b0 : (t477 == 0) = true := beq_iff_eq.mpr c6
   have c6b1 : (t477 != 0) = false := bne_eq_false_iff_eq.mpr c6
   clear c6
   replace H := Option.bind_eq_some_iff.mp H
   obtain ⟨⟨t478, t479, t480⟩, A70, H⟩ := H
   replace H : (if (l1.length : Int) > 0 then (if 0 ≤ (wrap64 ((l1.length : Int) - 1)) then (if (wrap64 ((l1.length : Int) - 1)) < (l1.length : Int) then (span_Through.j0 k l1 t473 (decide (((rd_T44 l1 (wrap64 ((l1.length : Int) - 1))).f1) > t478))) else (none)) else (none)) else (span_Through.j0 k l1 t473 false)) = some (r1, r2) := H
   have A7 := Aside0.mk A70
   clear A70
   have HC8 := Aside0.mk H
   clear H
   go_enter Try.func23, Try.ntmps23
   go_upto_region 8 with (first | ((with_reducible refine gate_callee (f := 32) rfl ?_); refine goesL_ (some 19) rfl rfl Try.func32 (by kernel_rfl) rfl #[.slice A0 l0.length c0] rfl (by (try simp only [List.map_toArray, List.map_cons, List.map_nil]); first | done | rfl | (simp only [List.length_drop, List.length_take]; rfl)) ?_; (with_reducible refine (delta_Axis.calls k _ _ l0 t473 t474 _ ?side1 ?side2 A3.out).mono ?_); (case side1 => repeat (first | exact HR0.out | (with_reducible refine Kd.C_alloc ?_ _) | (with_reducible refine Kd.C_drewN ?_ _) | (with_reducible refine Kd.C_drew ?_))); (case side2 => exact HC0.out); rintro e w9 ⟨v475, rfl, ho0, hb⟩; refine ⟨_, rfl, ?_⟩; have n0_ := Aside0.mk (Kd.R_lower ho0 (below_size (by with_reducible repeat first | exact HB.out | apply below_alloc | apply pw_below_drewN | apply below_drew1))); have n1_ := Aside0.mk (below_step (by with_reducible repeat first | exact HB.out | apply below_alloc | apply pw_below_drewN | apply below_drew1) hb); clear HB; have HO476 := n0_; have HB := n1_; clear n0_ n1_; (try clear hb); (try clear hb2); (try clear hk); (try clear hi); (try clear ho0)) | ((with_reducible refine gate_callee (f := 57) rfl ?_); refine goesL_ (some 26) rfl rfl Try.func57 (by kernel_rfl) rfl #[.slice A1 l1.length c1] rfl (by (try simp only [List.map_toArray, List.map_cons, List.map_nil]); first | done | rfl | (simp only [List.length_drop, List.length_take]; rfl)) ?_; (with_reducible refine (span_Check.calls k _ _ l1 t477 _ ?side1 ?side2 A5.out).mono ?_); (case side1 => repeat (first | exact (Kd.C_below HR1.out HB.out) | (with_reducible refine Kd.C_alloc ?_ _) | (with_reducible refine Kd.C_drewN ?_ _) | (with_reducible refine Kd.C_drew ?_))); (case side2 => exact HC1.out); rintro e w10 ⟨rfl, hb⟩; refine ⟨_, rfl, ?_⟩; have n0_ := Aside0.mk (Kd.R_below (by (with_reducible repeat (first | apply Kd.R_alloc | apply Kd.R_drewN | apply Kd.R_drew)); exact HO476.out) hb); have n1_ := Aside0.mk (below_step (by with_reducible repeat first | exact HB.out | apply below_alloc | apply pw_below_drewN | apply below_drew1) hb); clear HO476; clear HB; have HO476 := n0_; have HB := n1_; clear n0_ n1_; (try clear hb); (try clear hb2); (try clear hk); (try clear hi); obtain ⟨Ao11, co11, eo11⟩ := Kd.R_slice HO476.out; subst eo11) | ((with_reducible refine gate_callee (f := 58) rfl ?_); refine goesL_ (some 32) rfl rfl Try.func58 (by kernel_rfl) rfl #[.slice Ao11 t473.length co11] rfl (by (try simp only [List.map_toArray, List.map_cons, List.map_nil]); first | done | rfl | (simp only [List.length_drop, List.length_take]; rfl)) ?_; (with_reducible refine (axis_Lengths.calls k _ _ t473 t478 t479 t480 _ ?side1 ?side2 A7.out).mono ?_); (case side1 => repeat (first | exact (Kd.R_reads' HO476.out).2.2 | (with_reducible refine Kd.C_alloc ?_ _) | (with_reducible refine Kd.C_drewN ?_ _) | (with_reducible refine Kd.C_drew ?_))); (case side2 => exact (Kd.R_reads' HO476.out).2.1); rintro e w12 ⟨rfl, hb⟩; refine ⟨_, rfl, ?_⟩; have n0_ := Aside0.mk (Kd.R_below (by (with_reducible repeat (first | apply Kd.R_alloc | apply Kd.R_drewN | apply Kd.R_drew)); exact HO476.out) hb); have n1_ := Aside0.mk (below_step (by with_reducible repeat first | exact HB.out | apply below_alloc | apply pw_below_drewN | apply below_drew1) hb); clear HO476; clear HB; have HO476 := n0_; have HB := n1_; clear n0_ n1_; (try clear hb); (try clear hb2); (try clear hk); (try clear hi)))
   (try simp only [Act.put, List.setIfInBounds_toArray, List.set_cons_zero, List.set_cons_succ])
   go_cut [49] (fun v49 wc => ∃ (kq : Nat) (x49_7 : Bool), v49 = .bool x49_7 ∧ Aside0 (span_Through.j0 kq l1 t473 x49_7 = some (r1, r2)) ∧ Aside0 (kq ≤ k) ∧ Aside0 (Kd.R k121 121 wc w.heap.size (fun _ => True) (.slice Ao11 t473.length co11) t473) ∧ Aside0 (Below w.heap.size w wc))
   case first =>
    have H := HC8.out
    clear HC8
    by_cases c13 : (l1.length : Int) > 0
    ·rw [if_pos c13] at H
     have c13b0 : decide (0 < (l1.length : Int)) = true := decide_eq_true c13
     have c13b1 : decide (0 < l1.length) = true := decide_eq_true (by omega)
     clear c13
     (first | rw [c13b0] | (simp only [i64_w, i32_w]; rw [c13b0]) | skip)
     obtain ⟨ji14, hji14⟩ : ∃ j_ : Int, (wrap64 ((l1.length : Int) - 1)) = j_ := ⟨_, rfl⟩
     replace H : (if 0 ≤ (ji14) then (if (ji14) < (l1.length : Int) then (span_Through.j0 k l1 t473 (decide (((rd_T44 l1 (ji14)).f1) > t478))) else (none)) else (none)) = some (r1, r2) := by first | (rw [hji14] at H; exact H) | (simp only [hji14] at H ⊢; exact H)
     have hji14w : (IntKind.i64.wrap ((l1.length : Int) - 1)) = ji14 := (i64_w _).trans hji14
     by_cases c15 : 0 ≤ (ji14)
     ·rw [if_pos c15] at H
      have c15b0 : decide (0 ≤ (ji14)) = true := decide_eq_true c15
      clear c15
      by_cases c16 : (ji14) < (l1.length : Int)
      ·rw [if_pos c16] at H
       have c16b0 : decide ((ji14) < (l1.length : Int)) = true := decide_eq_true c16
       clear c16
       have H' := Aside0.mk H
       clear H
       have p481 : 0 ≤ ((ji14) : Int) := of_decide_eq_true (by assumption)
       have q481 : (ji14) < (l1.length : Int) := of_decide_eq_true (by assumption)
       obtain ⟨ad481, e481, hx481_0, hx481_1⟩ := at_T44 HR1.out (ji14) p481 q481
       cases e481
       replace hx481_0 := (HB.out.cell (World.block_lt_of_cell? w _ hx481_0)).trans hx481_0
       replace hx481_1 := (HB.out.cell (World.block_lt_of_cell? w _ hx481_1)).trans hx481_1
       replace p481 := eq_true p481
       replace q481 := eq_true q481
       go_wp2
       go_meet
       case rel => exact ⟨_, (decide (((rd_T44 l1 (ji14)).f1) > t478)), (by first | rfl | (simp; done) | (simp only [← hji14] <;> (first | rfl | simp)) | (simp [*]; done)), H', ⟨by first | omega | exact Nat.le_refl _⟩, ⟨by (with_reducible repeat (first | apply Kd.R_alloc | apply Kd.R_drewN | apply Kd.R_drew)); exact HO476.out⟩, ⟨by repeat (first | (with_reducible first | exact HB.out | apply below_alloc | apply pw_below_drewN | apply below_drew1) | exact HB.out)⟩⟩
      ·rw [if_neg c16] at H
       exact absurd H (by simp)
     ·rw [if_neg c15] at H
      exact absurd H (by simp)
    ·rw [if_neg c13] at H
     have c13b0 : decide (0 < (l1.length : Int)) = false := decide_eq_false c13
     have c13b1 : decide (0 < l1.length) = false := decide_eq_false (by omega)
     clear c13
     (first | rw [c13b0] | (simp only [i64_w, i32_w]; rw [c13b0]) | skip)
     have H' := Aside0.mk H
     clear H
     go_wp2
     go_meet
     case rel => exact ⟨_, (false), (by first | rfl | (simp; done) | (simp [*]; done)), H', ⟨by first | omega | exact Nat.le_refl _⟩, ⟨by (with_reducible repeat (first | apply Kd.R_alloc | apply Kd.R_drewN | apply Kd.R_drew)); exact HO476.out⟩, ⟨by repeat (first | (with_reducible first | exact HB.out | apply below_alloc | apply pw_below_drewN | apply below_drew1) | exact HB.out)⟩⟩
   case rest =>
    clear HC8
    try clear c1
    try clear c2
    try clear p2
    try clear c3
    try clear c4
    try clear c4b0
    try clear c4b1
    try clear p4
    try clear q4
    try clear hx4
    try clear c5
    try clear c6
    try clear c6b0
    try clear c6b1
    try clear p6
    try clear c13
    try clear c13b0
    try clear c13b1
    try clear c15
    try clear c15b0
    try clear c16
    try clear c16b0
    try clear hx481_0
    try clear hx481_1
    try clear p481
    try clear q481
    obtain ⟨kq, x49_7, rfl, HA, HJ7, HO_6, HB⟩ := hcut
    cases kq with
    | zero => exact absurd HA.out (by simp [span_Through.j0])
    | succ kj7 =>
     have H := HA.out
     clear HA
     simp only [span_Through.j0] at H
     by_cases c17 : x49_7 = true
     ·subst c17
      have H1 : (some (([] : List (S44)), 2)) = some (r1, r2) := by rw [if_pos rfl] at H; exact H
      clear H
      have H := H1
      clear H1
      simp only [Option.some.injEq, Prod.mk.injEq] at H
      obtain ⟨rfl, rfl⟩ := H
      go_wp2
      go_ret2
      exact ⟨_, by first | rfl | (simp [errW_none, errW_some] <;> rfl) | (simp [*, errW_none, errW_some] <;> rfl), by first | exact Kd.R_nil _ _ _ _ _ | exact Kd.N_nil _ _ _ _ _ | exact Kd.V_nil _ _ _ _ _ | exact Kd.Q_nil _ _ _ _ _ | exact Kd.S_nil _ _ _ _ _, by repeat (first | (with_reducible first | exact HB.out | apply below_alloc | apply pw_below_drewN | apply below_drew1) | exact HB.out)⟩
     ·replace c17 := Bool.eq_false_iff.mpr c17
      subst c17
      have H1 : (span_Through.l0 kj7 t473 ([] : List (S44)) l1 (l1.length : Int) 0) = some (r1, r2) := by rw [if_neg (show ¬ (false = true) by decide)] at H; exact H
      clear H
      have H := H1
      clear H1
      have H' := Aside0.mk H
      clear H
      go_wp2
      go_loopg [12, 52] kj7 (fun kq v12 v52 w' => ∃ (x12_2 : List (S44)) (x52_2 : Int), v52 = .int .i64 x52_2 ∧ Aside0 (span_Through.l0 kq t473 x12_2 l1 (l1.length : Int) x52_2 = some (r1, r2)) ∧ Aside0 (kq ≤ kj7) ∧ Aside0 (Kd.R k121 121 w' w.heap.size (fun _ => True) (.slice Ao11 t473.length co11) t473) ∧ Aside0 (Kd.R k44 44 w' w.heap.size (fun _ => True) v12 x12_2) ∧ Aside0 (Below w.heap.size w w'))
      case atStart => exact ⟨(([] : List (S44))), (0), (by first | rfl | (simp; done) | (simp [*]; done)), H', ⟨Nat.le_refl _⟩, ⟨by (with_reducible repeat (first | apply Kd.R_alloc | apply Kd.R_drewN | apply Kd.R_drew)); exact HO_6.out⟩, ⟨by first | exact Kd.R_nil _ _ _ _ _ | exact Kd.N_nil _ _ _ _ _ | exact Kd.V_nil _ _ _ _ _ | exact Kd.Q_nil _ _ _ _ _ | exact Kd.S_nil _ _ _ _ _⟩, ⟨by repeat (first | (with_reducible first | exact HB.out | apply below_alloc | apply pw_below_drewN | apply below_drew1) | exact HB.out)⟩⟩
      case round =>
       clear H'
       try clear c1
       try clear c2
       try clear p2
       try clear c3
       try clear c4
       try clear c4b0
       try clear c4b1
       try clear p4
       try clear q4
       try clear hx4
       try clear c5
       try clear c6
       try clear c6b0
       try clear c6b1
       try clear p6
       try clear c13
       try clear c13b0
       try clear c13b1
       try clear c15
       try clear c15b0
       try clear c16
       try clear c16b0
       try clear c17
       try clear hx481_0
       try clear hx481_1
       try clear p2
       try clear p4
       try clear p481
       try clear p6
       try clear q4
       try clear q481
       obtain ⟨x12_2, x52_2, rfl, HA, HK2, HO_6, HO_12, HB⟩ := hrel
       cases gk with
       | zero => exact absurd HA.out (by simp [span_Through.l0])
       | succ k2 =>
        have H := HA.out
        clear HA
        simp only [span_Through.l0] at H
        by_cases c18 : x52_2 < (l1.length : Int)
        ·rw [if_pos c18] at H
         have c18b0 : decide (x52_2 < (l1.length : Int)) = true := decide_eq_true c18
         clear c18
         by_cases c19 : 0 ≤ x52_2
         ·rw [if_pos c19] at H
          have c19b0 : decide (0 ≤ x52_2) = true := decide_eq_true c19
          clear c19
          by_cases c20 : x52_2 < (l1.length : Int)
          ·rw [if_pos c20] at H
           have c20b0 : decide (x52_2 < (l1.length : Int)) = true := decide_eq_true c20
           clear c20
           replace H := Option.bind_eq_some_iff.mp H
           obtain ⟨⟨t484, t485⟩, A210, H⟩ := H
           replace H : (if t484 < t485 then ((span_add.f x12_2 t484 t485).bind fun t486 => (span_Through.l0 k2 t473 t486 l1 (l1.length : Int) (wrap64 (x52_2 + 1)))) else (span_Through.l0 k2 t473 x12_2 l1 (l1.length : Int) (wrap64 (x52_2 + 1)))) = some (r1, r2) := H
           have A21 := Aside0.mk A210
           clear A210
           by_cases c22 : t484 < t485
           ·rw [if_pos c22] at H
            have c22b0 : decide (t484 < t485) = true := decide_eq_true c22
            clear c22
            replace H := Option.bind_eq_some_iff.mp H
            obtain ⟨t486, A230, H⟩ := H
            replace H : (span_Through.l0 k2 t473 t486 l1 (l1.length : Int) (wrap64 (x52_2 + 1))) = some (r1, r2) := H
            have A23 := Aside0.mk A230
            clear A230
            have H' := Aside0.mk H
            clear H
            have p482 : 0 ≤ (x52_2 : Int) := of_decide_eq_true (by assumption)
            have q482 : x52_2 < (l1.length : Int) := of_decide_eq_true (by assumption)
            obtain ⟨ad482, e482, hx482_0, hx482_1⟩ := at_T44 HR1.out x52_2 p482 q482
            cases e482
            replace hx482_0 := (HB.out.cell (World.block_lt_of_cell? w _ hx482_0)).trans hx482_0
            replace hx482_1 := (HB.out.cell (World.block_lt_of_cell? w _ hx482_1)).trans hx482_1
            replace p482 := eq_true p482
            replace q482 := eq_true q482
            go_wp2_with (first | ((with_reducible refine gate_dst (N := 14) rfl ?_); (try (refine gate_guard (by rfl) ?_; dsimp only)); refine box_event ?hg (N := 14) ?hd (cs := #[.int .i64 0, .int .i64 0]) (t := 44) ?hr ?_; (case hd => rfl); (case hg => rfl); (case hr => first | (go_simp; done) | (go_simp; rfl)); intro gb483 hg w24 hbox hb; have n0_ := Aside0.mk (Kd.R_below (by (with_reducible repeat (first | apply Kd.R_alloc | apply Kd.R_drewN | apply Kd.R_drew)); exact HO_6.out) hb); have n1_ := Aside0.mk (Kd.R_below (Kd.R_elderB (by (with_reducible repeat (first | apply Kd.R_alloc | apply Kd.R_drewN | apply Kd.R_drew)); exact HO_12.out) gb483 (Nat.le_of_eq hg.symm)) hb); have n2_ := Aside0.mk (below_step (by with_reducible repeat first | exact HB.out | apply below_alloc | apply pw_below_drewN | apply below_drew1) hb); have n3_ := Aside0.mk (hbox); have n4_ := Aside0.mk ((by rw [hg]; exact (below_size (by with_reducible repeat first | exact HB.out | apply below_alloc | apply pw_below_drewN | apply below_drew1)) : w.heap.size ≤ gb483)); have n5_ := Aside0.mk ((by rw [hg]; exact (below_size (by with_reducible repeat first | exact HB.out | apply below_alloc | apply pw_below_drewN | apply below_drew1)) : w.heap.size ≤ gb483)); clear HO_6; clear HO_12; clear HB; have HO_6 := n0_; have HO_12 := n1_; have HB := n2_; have BK483 := n3_; have GW483 := n4_; have GE483 := n5_; clear n0_ n1_ n2_ n3_ n4_ n5_; clear hb hbox hg; have hcz25_0 : w24.cell? ⟨gb483, 0, none⟩ = some (.int .i64 0) := (blk_cell BK483.out 0).trans rfl; have hcz25_1 : w24.cell? ⟨gb483, 1, none⟩ = some (.int .i64 0) := (blk_cell BK483.out 1).trans rfl; have hfz25_0 := blk_frozen BK483.out 0; have hfz25_1 := blk_frozen BK483.out 1) | ((with_reducible refine gate_callee (f := 59) rfl ?_); refine goesL_ (some 62) rfl rfl Try.func59 (by kernel_rfl) rfl #[.slice Ao11 t473.length co11, .int .i64 ((rd_T44 l1 x52_2).f0), .int .i64 ((rd_T44 l1 x52_2).f1)] rfl (by (try simp only [List.map_toArray, List.map_cons, List.map_nil]); first | done | rfl | (simp only [List.length_drop, List.length_take]; rfl)) ?_; (with_reducible refine (axis_Hull.calls k2 _ _ t473 ((rd_T44 l1 x52_2).f0) ((rd_T44 l1 x52_2).f1) t484 t485 _ ?side1 ?side2 A21.out).mono ?_); (case side1 => refine (Kd.R_reads' (e := 121) (base := w.heap.size) (ok := fun k_ => True) (n := t473.length) (c := co11) ?_).2.2; exact (by (with_reducible repeat (first | apply Kd.R_alloc | apply Kd.R_drewN | apply Kd.R_drew)); exact (Kd.R_mono (Kd.R_far (p := ⟨gb483, 1, none⟩) (Kd.R_far (p := ⟨gb483, 0, none⟩) (Kd.R_types HO_6.out BK483.out (by decide)) (fun _ hk => hk.2) (.int .i64 ((rd_T44 l1 x52_2).f0))) (fun _ hk => hk.2) (.int .i64 ((rd_T44 l1 x52_2).f1))) (fun _ h_ => h_.1)))); (case side2 => exact (Kd.R_reads' HO_6.out).2.1); rintro e w26 ⟨rfl, hb⟩; refine ⟨_, rfl, ?_⟩; have n0_ := Aside0.mk (Kd.R_below (by (with_reducible repeat (first | apply Kd.R_alloc | apply Kd.R_drewN | apply Kd.R_drew)); exact (Kd.R_mono (Kd.R_far (p := ⟨gb483, 1, none⟩) (Kd.R_far (p := ⟨gb483, 0, none⟩) (Kd.R_types HO_6.out BK483.out (by decide)) (fun _ hk => hk.2) (.int .i64 ((rd_T44 l1 x52_2).f0))) (fun _ hk => hk.2) (.int .i64 ((rd_T44 l1 x52_2).f1))) (fun _ h_ => h_.1))) hb); have n1_ := Aside0.mk (Kd.R_below (by (with_reducible repeat (first | apply Kd.R_alloc | apply Kd.R_drewN | apply Kd.R_drew)); exact (Kd.R_mono (Kd.R_far (p := ⟨gb483, 1, none⟩) (Kd.R_far (p := ⟨gb483, 0, none⟩) (Kd.R_mono HO_12.out (fun k_ hk => (⟨hk, hk.2⟩ : _ ∧ k_ ≠ gb483))) (fun _ hk => hk.2) (.int .i64 ((rd_T44 l1 x52_2).f0))) (fun _ hk => hk.2) (.int .i64 ((rd_T44 l1 x52_2).f1))) (fun _ h_ => h_.1))) hb); have n2_ := Aside0.mk (blk_below (g := gb483) (o := .cells #[.int .i64 ((rd_T44 l1 x52_2).f0), .int .i64 ((rd_T44 l1 x52_2).f1)] 44 (0, 0)) (by (with_reducible repeat (first | refine blk_drewN ?_ _ | refine blk_drew ?_ | refine blk_alloc ?_ _)); refine blk_put (cs := #[.int .i64 ((rd_T44 l1 x52_2).f0), .int .i64 0]) ?_ 1 _ rfl; (with_reducible repeat (first | refine blk_drewN ?_ _ | refine blk_drew ?_ | refine blk_alloc ?_ _)); refine blk_put (cs := #[.int .i64 0, .int .i64 0]) ?_ 0 _ rfl; (with_reducible repeat (first | refine blk_drewN ?_ _ | refine blk_drew ?_ | refine blk_alloc ?_ _)); exact BK483.out) hb); have n3_ := Aside0.mk (below_step (by repeat (first | (with_reducible first | exact HB.out | apply below_alloc | apply pw_below_drewN | apply below_drew1 | refine below_set ?_ GE483.out) | exact HB.out)) hb); clear HO_6; clear HO_12; clear BK483; clear HB; have HO_6 := n0_; have HO_12 := n1_; have BK483 := n2_; have HB := n3_; clear n0_ n1_ n2_ n3_; (try clear hb); (try clear hb2); (try clear hk); (try clear hi); obtain ⟨Ao27, co27, eo27⟩ := Kd.R_slice HO_12.out; subst eo27) | ((with_reducible refine gate_callee (f := 60) rfl ?_); refine goesL_ (some 72) rfl rfl Try.func60 (by kernel_rfl) rfl #[.slice Ao27 x12_2.length co27, .agg #[.int .i64 t484, .int .i64 t485]] rfl (by (try simp only [List.map_toArray, List.map_cons, List.map_nil]); first | done | rfl | (simp only [List.length_drop, List.length_take]; rfl)) ?_; (with_reducible refine (span_add.calls (fun k_ => some k_ = (.slice Ao27 x12_2.length co27 : Value).ownBlock) (.slice Ao27 x12_2.length co27) x12_2 t484 t485 t486 w _ ?side1 ?side2 A23.out).mono ?_); (case side1 => repeat (first | (with_reducible first | exact HB.out | apply below_alloc | apply pw_below_drewN | apply below_drew1 | refine below_set ?_ GE483.out) | exact HB.out)); (case side2 => exact Kd.R_tight rfl HO_12.out); rintro e w28 ⟨v487, rfl, ho0, hb, hkp⟩; refine ⟨_, rfl, ?_⟩; have n0_ := Aside0.mk (Kd.R_mono (ok' := fun k_ => True) (Kd.R_keptB ((Kd.R_apart' HO_6.out (Kd.R_typed HO_12.out) (by decide))) hkp (fun k_ hk_ hs_ => (hk_.2) hs_)) (fun k_ hk_ => trivial)); have n1_ := Aside0.mk (blk_kept (by (with_reducible repeat (first | refine blk_drewN ?_ _ | refine blk_drew ?_ | refine blk_alloc ?_ _)); exact BK483.out) hkp (fun hs_ => (fun e_ => (Kd.R_away HO_12.out (fun _ hk => hk.2)) e_) hs_)); have n2_ := Aside0.mk (Kd.R_mono (ok' := fun k_ => k_ ≠ gb483) ho0 (fun k_ hk_ => Or.elim hk_ (fun hs_ => fun e_ => (Kd.R_away HO_12.out (fun _ hk => hk.2)) (by rw [← e_]; exact hs_)) (fun hn_ => (Kd.freshB (g := gb483) (o := .cells #[.int .i64 ((rd_T44 l1 x52_2).f0), .int .i64 ((rd_T44 l1 x52_2).f1)] 44 (0, 0)) (by (with_reducible repeat (first | refine blk_drewN ?_ _ | refine blk_drew ?_ | refine blk_alloc ?_ _)); exact BK483.out) k_ hn_)))); have n3_ := Aside0.mk (hb); clear HO_6; clear BK483; clear HB; clear HO_12; have HO_6 := n0_; have BK483 := n1_; have HO488 := n2_; have HB := n3_; clear n0_ n1_ n2_ n3_; (try clear hb); (try clear hkp); (try clear ho0)))
            go_roundg k2
            case measure => have := HJ7.out; have := HK2.out; omega
            case rel => exact ⟨(t486), (wrap64 (x52_2 + 1)), (by first | rfl | (simp; done) | (simp [*]; done)), H', ⟨by have := HJ7.out; have := HK2.out; omega⟩, ⟨by (with_reducible repeat (first | apply Kd.R_alloc | apply Kd.R_drewN | apply Kd.R_drew)); exact HO_6.out⟩, ⟨by (with_reducible repeat (first | apply Kd.R_alloc | apply Kd.R_drewN | apply Kd.R_drew)); exact Kd.R_mono HO488.out (fun _ hk => trivial)⟩, ⟨by repeat (first | (with_reducible first | exact HB.out | apply below_alloc | apply pw_below_drewN | apply below_drew1 | refine below_set ?_ GE483.out) | exact HB.out)⟩⟩
           ·rw [if_neg c22] at H
            have c22b0 : decide (t484 < t485) = false := decide_eq_false c22
            clear c22
            have H' := Aside0.mk H
            clear H
            have p482 : 0 ≤ (x52_2 : Int) := of_decide_eq_true (by assumption)
            have q482 : x52_2 < (l1.length : Int) := of_decide_eq_true (by assumption)
            obtain ⟨ad482, e482, hx482_0, hx482_1⟩ := at_T44 HR1.out x52_2 p482 q482
            cases e482
            replace hx482_0 := (HB.out.cell (World.block_lt_of_cell? w _ hx482_0)).trans hx482_0
            replace hx482_1 := (HB.out.cell (World.block_lt_of_cell? w _ hx482_1)).trans hx482_1
            replace p482 := eq_true p482
            replace q482 := eq_true q482
            go_wp2_with (first | ((with_reducible refine gate_dst (N := 14) rfl ?_); (try (refine gate_guard (by rfl) ?_; dsimp only)); refine box_event ?hg (N := 14) ?hd (cs := #[.int .i64 0, .int .i64 0]) (t := 44) ?hr ?_; (case hd => rfl); (case hg => rfl); (case hr => first | (go_simp; done) | (go_simp; rfl)); intro gb483 hg w29 hbox hb; have n0_ := Aside0.mk (Kd.R_below (by (with_reducible repeat (first | apply Kd.R_alloc | apply Kd.R_drewN | apply Kd.R_drew)); exact HO_6.out) hb); have n1_ := Aside0.mk (Kd.R_below (Kd.R_elderB (by (with_reducible repeat (first | apply Kd.R_alloc | apply Kd.R_drewN | apply Kd.R_drew)); exact HO_12.out) gb483 (Nat.le_of_eq hg.symm)) hb); have n2_ := Aside0.mk (below_step (by with_reducible repeat first | exact HB.out | apply below_alloc | apply pw_below_drewN | apply below_drew1) hb); have n3_ := Aside0.mk (hbox); have n4_ := Aside0.mk ((by rw [hg]; exact (below_size (by with_reducible repeat first | exact HB.out | apply below_alloc | apply pw_below_drewN | apply below_drew1)) : w.heap.size ≤ gb483)); have n5_ := Aside0.mk ((by rw [hg]; exact (below_size (by with_reducible repeat first | exact HB.out | apply below_alloc | apply pw_below_drewN | apply below_drew1)) : w.heap.size ≤ gb483)); clear HO_6; clear HO_12; clear HB; have HO_6 := n0_; have HO_12 := n1_; have HB := n2_; have BK483 := n3_; have GW483 := n4_; have GE483 := n5_; clear n0_ n1_ n2_ n3_ n4_ n5_; clear hb hbox hg; have hcz30_0 : w29.cell? ⟨gb483, 0, none⟩ = some (.int .i64 0) := (blk_cell BK483.out 0).trans rfl; have hcz30_1 : w29.cell? ⟨gb483, 1, none⟩ = some (.int .i64 0) := (blk_cell BK483.out 1).trans rfl; have hfz30_0 := blk_frozen BK483.out 0; have hfz30_1 := blk_frozen BK483.out 1) | ((with_reducible refine gate_callee (f := 59) rfl ?_); refine goesL_ (some 62) rfl rfl Try.func59 (by kernel_rfl) rfl #[.slice Ao11 t473.length co11, .int .i64 ((rd_T44 l1 x52_2).f0), .int .i64 ((rd_T44 l1 x52_2).f1)] rfl (by (try simp only [List.map_toArray, List.map_cons, List.map_nil]); first | done | rfl | (simp only [List.length_drop, List.length_take]; rfl)) ?_; (with_reducible refine (axis_Hull.calls k2 _ _ t473 ((rd_T44 l1 x52_2).f0) ((rd_T44 l1 x52_2).f1) t484 t485 _ ?side1 ?side2 A21.out).mono ?_); (case side1 => refine (Kd.R_reads' (e := 121) (base := w.heap.size) (ok := fun k_ => True) (n := t473.length) (c := co11) ?_).2.2; exact (by (with_reducible repeat (first | apply Kd.R_alloc | apply Kd.R_drewN | apply Kd.R_drew)); exact (Kd.R_mono (Kd.R_far (p := ⟨gb483, 1, none⟩) (Kd.R_far (p := ⟨gb483, 0, none⟩) (Kd.R_types HO_6.out BK483.out (by decide)) (fun _ hk => hk.2) (.int .i64 ((rd_T44 l1 x52_2).f0))) (fun _ hk => hk.2) (.int .i64 ((rd_T44 l1 x52_2).f1))) (fun _ h_ => h_.1)))); (case side2 => exact (Kd.R_reads' HO_6.out).2.1); rintro e w31 ⟨rfl, hb⟩; refine ⟨_, rfl, ?_⟩; have n0_ := Aside0.mk (Kd.R_below (by (with_reducible repeat (first | apply Kd.R_alloc | apply Kd.R_drewN | apply Kd.R_drew)); exact (Kd.R_mono (Kd.R_far (p := ⟨gb483, 1, none⟩) (Kd.R_far (p := ⟨gb483, 0, none⟩) (Kd.R_types HO_6.out BK483.out (by decide)) (fun _ hk => hk.2) (.int .i64 ((rd_T44 l1 x52_2).f0))) (fun _ hk => hk.2) (.int .i64 ((rd_T44 l1 x52_2).f1))) (fun _ h_ => h_.1))) hb); have n1_ := Aside0.mk (Kd.R_below (by (with_reducible repeat (first | apply Kd.R_alloc | apply Kd.R_drewN | apply Kd.R_drew)); exact (Kd.R_mono (Kd.R_far (p := ⟨gb483, 1, none⟩) (Kd.R_far (p := ⟨gb483, 0, none⟩) (Kd.R_mono HO_12.out (fun k_ hk => (⟨hk, hk.2⟩ : _ ∧ k_ ≠ gb483))) (fun _ hk => hk.2) (.int .i64 ((rd_T44 l1 x52_2).f0))) (fun _ hk => hk.2) (.int .i64 ((rd_T44 l1 x52_2).f1))) (fun _ h_ => h_.1))) hb); have n2_ := Aside0.mk (blk_below (g := gb483) (o := .cells #[.int .i64 ((rd_T44 l1 x52_2).f0), .int .i64 ((rd_T44 l1 x52_2).f1)] 44 (0, 0)) (by (with_reducible repeat (first | refine blk_drewN ?_ _ | refine blk_drew ?_ | refine blk_alloc ?_ _)); refine blk_put (cs := #[.int .i64 ((rd_T44 l1 x52_2).f0), .int .i64 0]) ?_ 1 _ rfl; (with_reducible repeat (first | refine blk_drewN ?_ _ | refine blk_drew ?_ | refine blk_alloc ?_ _)); refine blk_put (cs := #[.int .i64 0, .int .i64 0]) ?_ 0 _ rfl; (with_reducible repeat (first | refine blk_drewN ?_ _ | refine blk_drew ?_ | refine blk_alloc ?_ _)); exact BK483.out) hb); have n3_ := Aside0.mk (below_step (by repeat (first | (with_reducible first | exact HB.out | apply below_alloc | apply pw_below_drewN | apply below_drew1 | refine below_set ?_ GE483.out) | exact HB.out)) hb); clear HO_6; clear HO_12; clear BK483; clear HB; have HO_6 := n0_; have HO_12 := n1_; have BK483 := n2_; have HB := n3_; clear n0_ n1_ n2_ n3_; (try clear hb); (try clear hb2); (try clear hk); (try clear hi)))
            go_roundg k2
            case measure => have := HJ7.out; have := HK2.out; omega
            case rel => exact ⟨(x12_2), (wrap64 (x52_2 + 1)), (by first | rfl | (simp; done) | (simp [*]; done)), H', ⟨by have := HJ7.out; have := HK2.out; omega⟩, ⟨by (with_reducible repeat (first | apply Kd.R_alloc | apply Kd.R_drewN | apply Kd.R_drew)); exact HO_6.out⟩, ⟨by (with_reducible repeat (first | apply Kd.R_alloc | apply Kd.R_drewN | apply Kd.R_drew)); exact Kd.R_mono HO_12.out (fun _ hk => trivial)⟩, ⟨by repeat (first | (with_reducible first | exact HB.out | apply below_alloc | apply pw_below_drewN | apply below_drew1 | refine below_set ?_ GE483.out) | exact HB.out)⟩⟩
          ·rw [if_neg c20] at H
           exact absurd H (by simp)
         ·rw [if_neg c19] at H
          exact absurd H (by simp)
        ·rw [if_neg c18] at H
         have c18b0 : decide (x52_2 < (l1.length : Int)) = false := decide_eq_false c18
         clear c18
         simp only [Option.some.injEq, Prod.mk.injEq] at H
         obtain ⟨rfl, rfl⟩ := H
         go_wp2
         go_ret2
         exact ⟨_, by first | rfl | (simp [errW_none, errW_some] <;> rfl) | (simp [*, errW_none, errW_some] <;> rfl), by (with_reducible repeat (first | apply Kd.R_alloc | apply Kd.R_drewN | apply Kd.R_drew)); exact HO_12.out, by repeat (first | (with_reducible first | exact HB.out | apply below_alloc | apply pw_below_drewN | apply below_drew1) | exact HB.out)⟩
  ·rw [if_neg c6] at H
   have c6b0 : (t477 == 0) = false := beq_eq_false_iff_ne.mpr c6
   have c6b1 : (t477 != 0) = true := bne_iff_ne.mpr c6
   simp only [Option.some.injEq, Prod.mk.injEq] at H
   obtain ⟨rfl, rfl⟩ := H
   go_enter Try.func23, Try.ntmps23
   go_wp2_with (first | ((with_reducible refine gate_callee (f := 32) rfl ?_); refine goesL_ (some 19) rfl rfl Try.func32 (by kernel_rfl) rfl #[.slice A0 l0.length c0] rfl (by (try simp only [List.map_toArray, List.map_cons, List.map_nil]); first | done | rfl | (simp only [List.length_drop, List.length_take]; rfl)) ?_; (with_reducible refine (delta_Axis.calls k _ _ l0 t473 t474 _ ?side1 ?side2 A3.out).mono ?_); (case side1 => repeat (first | exact HR0.out | (with_reducible refine Kd.C_alloc ?_ _) | (with_reducible refine Kd.C_drewN ?_ _) | (with_reducible refine Kd.C_drew ?_))); (case side2 => exact HC0.out); rintro e w32 ⟨v475, rfl, ho0, hb⟩; refine ⟨_, rfl, ?_⟩; have n0_ := Aside0.mk (Kd.R_lower ho0 (below_size (by with_reducible repeat first | exact HB.out | apply below_alloc | apply pw_below_drewN | apply below_drew1))); have n1_ := Aside0.mk (below_step (by with_reducible repeat first | exact HB.out | apply below_alloc | apply pw_below_drewN | apply below_drew1) hb); clear HB; have HO476 := n0_; have HB := n1_; clear n0_ n1_; (try clear hb); (try clear hb2); (try clear hk); (try clear hi); (try clear ho0)) | ((with_reducible refine gate_callee (f := 57) rfl ?_); refine goesL_ (some 26) rfl rfl Try.func57 (by kernel_rfl) rfl #[.slice A1 l1.length c1] rfl (by (try simp only [List.map_toArray, List.map_cons, List.map_nil]); first | done | rfl | (simp only [List.length_drop, List.length_take]; rfl)) ?_; (with_reducible refine (span_Check.calls k _ _ l1 t477 _ ?side1 ?side2 A5.out).mono ?_); (case side1 => repeat (first | exact (Kd.C_below HR1.out HB.out) | (with_reducible refine Kd.C_alloc ?_ _) | (with_reducible refine Kd.C_drewN ?_ _) | (with_reducible refine Kd.C_drew ?_))); (case side2 => exact HC1.out); rintro e w33 ⟨rfl, hb⟩; refine ⟨_, rfl, ?_⟩; have n0_ := Aside0.mk (Kd.R_below (by (with_reducible repeat (first | apply Kd.R_alloc | apply Kd.R_drewN | apply Kd.R_drew)); exact HO476.out) hb); have n1_ := Aside0.mk (below_step (by with_reducible repeat first | exact HB.out | apply below_alloc | apply pw_below_drewN | apply below_drew1) hb); clear HO476; clear HB; have HO476 := n0_; have HB := n1_; clear n0_ n1_; (try clear hb); (try clear hb2); (try clear hk); (try clear hi)))
   go_ret2
   exact ⟨_, by first | rfl | (simp [errW_none, errW_some] <;> rfl) | (simp [*, errW_none, errW_some] <;> rfl), by first | exact Kd.R_nil _ _ _ _ _ | exact Kd.N_nil _ _ _ _ _ | exact Kd.V_nil _ _ _ _ _ | exact Kd.Q_nil _ _ _ _ _ | exact Kd.S_nil _ _ _ _ _, by repeat (first | (with_reducible first | exact HB.out | apply below_alloc | apply pw_below_drewN | apply below_drew1) | exact HB.out)⟩
 ·rw [if_neg c4] at H
  have c4b0 : (t474 == 0) = false := beq_eq_false_iff_ne.mpr c4
  have c4b1 : (t474 != 0) = true := bne_iff_ne.mpr c4
  simp only [Option.some.injEq, Prod.mk.injEq] at H
  obtain ⟨rfl, rfl⟩ := H
  go_enter Try.func23, Try.ntmps23
  go_wp2_with (first | ((with_reducible refine gate_callee (f := 32) rfl ?_); refine goesL_ (some 19) rfl rfl Try.func32 (by kernel_rfl) rfl #[.slice A0 l0.length c0] rfl (by (try simp only [List.map_toArray, List.map_cons, List.map_nil]); first | done | rfl | (simp only [List.length_drop, List.length_take]; rfl)) ?_; (with_reducible refine (delta_Axis.calls k _ _ l0 t473 t474 _ ?side1 ?side2 A3.out).mono ?_); (case side1 => repeat (first | exact HR0.out | (with_reducible refine Kd.C_alloc ?_ _) | (with_reducible refine Kd.C_drewN ?_ _) | (with_reducible refine Kd.C_drew ?_))); (case side2 => exact HC0.out); rintro e w34 ⟨v475, rfl, ho0, hb⟩; refine ⟨_, rfl, ?_⟩; have n0_ := Aside0.mk (Kd.R_lower ho0 (below_size (by with_reducible repeat first | exact HB.out | apply below_alloc | apply pw_below_drewN | apply below_drew1))); have n1_ := Aside0.mk (below_step (by with_reducible repeat first | exact HB.out | apply below_alloc | apply pw_below_drewN | apply below_drew1) hb); clear HB; have HO476 := n0_; have HB := n1_; clear n0_ n1_; (try clear hb); (try clear hb2); (try clear hk); (try clear hi); (try clear ho0)))
  go_ret2
  exact ⟨_, by first | rfl | (simp [errW_none, errW_some] <;> rfl) | (simp [*, errW_none, errW_some] <;> rfl), by first | exact Kd.R_nil _ _ _ _ _ | exact Kd.N_nil _ _ _ _ _ | exact Kd.V_nil _ _ _ _ _ | exact Kd.Q_nil _ _ _ _ _ | exact Kd.S_nil _ _ _ _ _, by repeat (first | (with_reducible first | exact HB.out | apply below_alloc | apply pw_below_drewN | apply below_drew1) | exact HB.out)⟩
end Go.Proofs.Ytlcodfjlbhjkbaa.PDelta
end

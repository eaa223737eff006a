/- Parts of the proof of Diff: nothing is claimed here by itself. -/
import Derived.Test.YtdgemabmmomebaaKDiff4
set_option linter.unusedVariables false
set_option linter.unusedSimpArgs false
section
namespace Go.Proofs.Ytdgemabmmomebaa.PDelta
open Go.RowKit Go.Proofs.YtdgemabmmomebaaW.PrintWords Go.Proofs.YtdgemabmmomebaaW.PrintLast Go.Proofs.YtdgemabmmomebaaW.PrintMore
attribute [local go_sem] max2_int min2_int max_two min_two max_three min_three max_four min_four
attribute [local go_sem high] Go.Proofs.Ytdgemabmmomebaa.Ord.leq_str Go.Proofs.Ytdgemabmmomebaa.Ord.gtr_str Go.Proofs.Ytdgemabmmomebaa.Ord.geq_str
mutual
def diff_table.l0 : Nat → List (S84) → List (S84) → List (List Int) → Int → Option ((List (List Int)))
 | 0, _, _, _, _ => none
 | k + 1, x0, x1, x5, x6 => if x6 ≥ 0 then (if 0 ≤ (wrap64 ((x1.length : Int) + 1)) then (if (wrap64 ((x1.length : Int) + 1) : Int).toNat ≤ 35184372088832 then (if 0 ≤ x6 then (if x6 < (x5.length : Int) then (diff_table.l1 k x0 x1 (x5.set (x6 : Int).toNat (List.replicate (wrap64 ((x1.length : Int) + 1) : Int).toNat 0)) x6 (x1.length : Int)) else (none)) else (none)) else (none)) else (none)) else (some x5)
def diff_table.l1 : Nat → List (S84) → List (S84) → List (List Int) → Int → Int → Option ((List (List Int)))
 | 0, _, _, _, _, _ => none
 | k + 1, x0, x1, x5, x6, x7 => if x7 ≥ 0 then (if x6 = (x0.length : Int) then (if 0 ≤ x6 then (if x6 < (x5.length : Int) then (if 0 ≤ x7 then (if x7 < ((rd_L7 x5 x6).length : Int) then (diff_table.l1 k x0 x1 (x5.set (x6 : Int).toNat ((rd_L7 x5 x6).set (x7 : Int).toNat (wrap64 ((x1.length : Int) - x7)))) x6 (wrap64 (x7 - 1))) else (none)) else (none)) else (none)) else (none)) else (if x7 = (x1.length : Int) then (if 0 ≤ x6 then (if x6 < (x5.length : Int) then (if 0 ≤ x7 then (if x7 < ((rd_L7 x5 x6).length : Int) then (diff_table.l1 k x0 x1 (x5.set (x6 : Int).toNat ((rd_L7 x5 x6).set (x7 : Int).toNat (wrap64 ((x0.length : Int) - x6)))) x6 (wrap64 (x7 - 1))) else (none)) else (none)) else (none)) else (none)) else (if 0 ≤ x6 then (if x6 < (x5.length : Int) then (if 0 ≤ (wrap64 (x6 + 1)) then (if (wrap64 (x6 + 1)) < (x5.length : Int) then (if 0 ≤ x7 then (if x7 < ((rd_L7 x5 (wrap64 (x6 + 1))).length : Int) then (if 0 ≤ (wrap64 (x7 + 1)) then (if (wrap64 (x7 + 1)) < ((rd_L7 x5 x6).length : Int) then (if x7 < ((rd_L7 x5 x6).length : Int) then ((some (x5.set (x6 : Int).toNat ((rd_L7 x5 x6).set (x7 : Int).toNat (wrap64 (1 + (mn (rd (rd_L7 x5 (wrap64 (x6 + 1))) x7) (rd (rd_L7 x5 x6) (wrap64 (x7 + 1))))))) : List (List Int))).bind fun y267 => (if x6 < (x0.length : Int) then (if x7 < (x1.length : Int) then ((diff_alike.f ((rd_T84 x0 x6).f0) ((rd_T84 x0 x6).f1) ((rd_T84 x0 x6).f2) ((rd_T84 x1 x7).f0) ((rd_T84 x1 x7).f1) ((rd_T84 x1 x7).f2)).bind fun t270 => (if t270 = true then (if x7 < ((rd_L7 y267 x6).length : Int) then (if (wrap64 (x7 + 1)) < ((rd_L7 y267 (wrap64 (x6 + 1))).length : Int) then ((diff_price.f k ((rd_T84 x0 x6).f0) ((rd_T84 x0 x6).f1) ((rd_T84 x0 x6).f2) ((rd_T84 x1 x7).f0) ((rd_T84 x1 x7).f1) ((rd_T84 x1 x7).f2)).bind fun t278 => (diff_table.l1 k x0 x1 (y267.set (x6 : Int).toNat ((rd_L7 y267 x6).set (x7 : Int).toNat (mn (rd (rd_L7 y267 x6) x7) (wrap64 ((rd (rd_L7 y267 (wrap64 (x6 + 1))) (wrap64 (x7 + 1))) + t278))))) x6 (wrap64 (x7 - 1)))) else (none)) else (none)) else (diff_table.l1 k x0 x1 y267 x6 (wrap64 (x7 - 1))))) else (none)) else (none))) else (none)) else (none)) else (none)) else (none)) else (none)) else (none)) else (none)) else (none)) else (none)))) else (diff_table.l0 k x0 x1 x5 (wrap64 (x6 - 1)))
end
def diff_table.f (k : Nat) (l0 : List (S84)) (l1 : List (S84)) : Option ((List (List Int))) := if 0 ≤ (wrap64 ((l0.length : Int) + 1)) then (if (wrap64 ((l0.length : Int) + 1) : Int).toNat ≤ 11728124029610 then (diff_table.l0 k l0 l1 (List.replicate (wrap64 ((l0.length : Int) + 1) : Int).toNat []) (l0.length : Int)) else (none)) else (none)
def diff_table.T9 : Bool × List (List Nat × List Nat) := (true, [([], []), ([], []), ([0, 1], [0, 1]), ([2], [2]), ([], []), ([], []), ([], []), ([6], [6]), ([5, 7], [5, 7]), ([8], [8]), ([], []), ([9, 10], [9, 10]), ([11], [11]), ([], []), ([], []), ([13, 14], [13, 14]), ([15], [15]), ([], []), ([17], [17]), ([16, 18], [16, 18]), ([19], [19]), ([12, 20], [12, 20]), ([21], [21]), ([3, 4, 0, 1, 2, 3, 4, 5, 6, 7, 8, 9, 10, 11, 12, 13, 14, 15, 16, 17, 18, 19, 20, 21, 22], [3, 4]), ([23, 22, 0, 1, 2, 3, 4, 5, 6, 7, 8, 9, 10, 11, 12, 13, 14, 15, 16, 17, 18, 19, 20, 21, 22], [22, 23])])
def diff_table.B9 : List Nat := [0, 0, 3, 7, 0, 0, 0, 64, 224, 480, 0, 2016, 4064, 0, 0, 24576, 57344, 0, 131072, 516096, 1040384, 2097120, 4194272, 8388607, 16777215]
theorem diff_table.tab9 : rtab .any (opsOf Try.f115 9) = diff_table.T9 := by kernel_rfl
theorem diff_table.bits9 : waitsOk diff_table.T9.2 diff_table.B9 = true := by kernel_rfl
def diff_table.T10 : Bool × List (List Nat × List Nat) := (true, [([], []), ([], []), ([0, 1], [0, 1]), ([2], [2]), ([], []), ([], []), ([4, 5], [4, 5]), ([6], [6]), ([3, 7], [3, 7])])
def diff_table.B10 : List Nat := [0, 0, 3, 7, 0, 0, 48, 112, 255]
theorem diff_table.tab10 : rtab .any (opsOf Try.f115 10) = diff_table.T10 := by kernel_rfl
theorem diff_table.bits10 : waitsOk diff_table.T10.2 diff_table.B10 = true := by kernel_rfl
def diff_table.T11 : Bool × List (List Nat × List Nat) := (true, [([], []), ([], []), ([0, 1], [0, 1]), ([2], [2]), ([], []), ([], []), ([], []), ([5, 6], [5, 6]), ([7], [7]), ([], []), ([8, 9], [8, 9]), ([10], [10]), ([], []), ([], []), ([13], [13]), ([12, 14], [12, 14]), ([15], [15]), ([], []), ([17], [17]), ([16, 18], [16, 18]), ([19], [19]), ([], []), ([], []), ([21, 22], [21, 22]), ([23], [23]), ([], []), ([], []), ([25, 26], [25, 26]), ([27], [27]), ([24, 28], [24, 28]), ([20, 29], [20, 29]), ([11, 30], [11, 30]), ([3, 4, 0, 1, 2, 3, 4, 5, 6, 7, 8, 9, 10, 11, 12, 13, 14, 15, 16, 17, 18, 19, 20, 21, 22, 23, 24, 25, 26, 27, 28, 29, 30, 31], [3, 4]), ([32, 31, 29, 0, 1, 2, 3, 4, 5, 6, 7, 8, 9, 10, 11, 12, 13, 14, 15, 16, 17, 18, 19, 20, 21, 22, 23, 24, 25, 26, 27, 28, 29, 30, 31], [31, 32])])
def diff_table.B11 : List Nat := [0, 0, 3, 7, 0, 0, 0, 96, 224, 0, 992, 2016, 0, 0, 8192, 28672, 61440, 0, 131072, 520192, 1044480, 0, 0, 6291456, 14680064, 0, 0, 100663296, 234881024, 534773760, 1073737728, 2147483616, 4294967295, 8589934591]
theorem diff_table.tab11 : rtab .any (opsOf Try.f115 11) = diff_table.T11 := by kernel_rfl
theorem diff_table.bits11 : waitsOk diff_table.T11.2 diff_table.B11 = true := by kernel_rfl
set_option maxHeartbeats 8000000 in
set_option maxRecDepth 100000 in
theorem diff_table.calls (k : Nat) (A0 : Option Addr) (c0 : Nat) (l0 : List (S84)) (A1 : Option Addr) (c1 : Nat) (l1 : List (S84)) (r : List (List Int)) (w : World) (hr0 : Kd.C k84 w A0 l0.length l0) (hc0 : l0.length ≤ c0) (hr1 : Kd.C k84 w A1 l1.length l1) (hc1 : l1.length ≤ c1) (h : diff_table.f k l0 l1 = some r) :
  Calls Try.prog 115 #[.slice A0 l0.length c0, .slice A1 l1.length c1] w fun e w' => ∃ v0_ : Value, e = .returned (v0_) ∧ Kd.S (Kd.slice 3 (Kd.int .i64)) 43 w' w.heap.size (fun _ => True) v0_ r ∧ Below w.heap.size w w' := by
 have hu84 := Try.underlying84
 have HR0 := Aside0.mk hr0
 have HC0 := Aside0.mk hc0
 clear hr0 hc0
 have HR1 := Aside0.mk hr1
 have HC1 := Aside0.mk hc1
 clear hr1 hc1
 have HB := Aside0.mk (Below.refl w.heap.size w)
 have H : (if 0 ≤ (wrap64 ((l0.length : Int) + 1)) then (if (wrap64 ((l0.length : Int) + 1) : Int).toNat ≤ 11728124029610 then (diff_table.l0 k l0 l1 (List.replicate (wrap64 ((l0.length : Int) + 1) : Int).toNat []) (l0.length : Int)) else (none)) else (none)) = some r := h
 clear h
 obtain ⟨ji3, hji3⟩ : ∃ j_ : Int, (wrap64 ((l0.length : Int) + 1)) = j_ := ⟨_, rfl⟩
 replace H : (if 0 ≤ (ji3) then (if (ji3 : Int).toNat ≤ 11728124029610 then (diff_table.l0 k l0 l1 (List.replicate (ji3 : Int).toNat []) (l0.length : Int)) else (none)) else (none)) = some r := by first | (rw [hji3] at H; exact H) | (simp only [hji3] at H ⊢; exact H)
 have hji3w : (IntKind.i64.wrap ((l0.length : Int) + 1)) = ji3 := (i64_w _).trans hji3
 by_cases c4 : 0 ≤ (ji3)
 ·rw [if_pos c4] at H
  have c4b0 := eq_true c4
  have c4b1 : decide (0 ≤ (ji3)) = true := decide_eq_true c4
  clear c4
  by_cases c5 : (ji3 : Int).toNat ≤ 11728124029610
  ·rw [if_pos c5] at H
   have c5b0 := eq_true c5
   have c5b1 : decide ((ji3 : Int).toNat ≤ 11728124029610) = true := decide_eq_true c5
   clear c5
   obtain ⟨y245, hy245⟩ : ∃ y_ : List (List Int), y_ = (List.replicate (ji3 : Int).toNat []) := ⟨_, rfl⟩
   replace H : (diff_table.l0 k l0 l1 y245 (l0.length : Int)) = some r := by first | (rw [hy245]; with_reducible exact H) | (have H2_ := (Option.bind_some _ _).symm.trans H; rw [hy245]; with_reducible exact H2_) | (have H2_ := (Option.bind_some _ _).symm.trans H; with_reducible exact H2_) | with_reducible exact H | (rw [hy245]; exact H) | exact H
   have Ny245 := Aside0.mk hy245
   clear hy245
   have H' := Aside0.mk H
   clear H
   go_enter Try.func115, Try.ntmps115
   go_wp2_with (first | ((with_reducible refine gate_dst (N := 11) rfl ?_); refine Kd.S_make (Kd.slice 3 (Kd.int .i64)) _ 43 rfl (N := 11) rfl 152 _ _ rfl ji3 rfl rfl Try.underlying152 (.slice none 0 0) 24 info43 rfl (by decide) (by omega) [] (ok := fun _ => True) (okp := fun _ => True) ⟨_, rfl, Kd.R_nil _ _ _ _ _⟩ (fun _ hk => hk) trivial (of_decide_eq_true (by assumption)) (Nat.le_trans (Nat.mul_le_mul_right _ (of_decide_eq_true (by assumption) : ji3.toNat ≤ 11728124029610)) (by omega)) (Below.refl _ _) (Nat.le_refl _) ?_; intro v246 w6 ho7 hb hg_ hnew_; clear hg_ hnew_; (first | rw [← Ny245.out] at ho7 | (simp only [Int.reduceToNat] at ho7; rw [← Ny245.out] at ho7)); have n0_ := Aside0.mk (Kd.S_lower ho7 (below_size (by with_reducible repeat first | exact HB.out | apply below_alloc | apply pw_below_drewN | apply below_drew1))); have n1_ := Aside0.mk (below_step (by with_reducible repeat first | exact HB.out | apply below_alloc | apply pw_below_drewN | apply below_drew1) hb); clear HB; have HO247 := n0_; have HB := n1_; clear n0_ n1_; clear hb ho7))
   go_loopg [6] k (fun kq v6 w' => ∃ (x5_1 : List (List Int)) (x6_1 : Int), v6 = .int .i64 x6_1 ∧ Aside0 (diff_table.l0 kq l0 l1 x5_1 x6_1 = some r) ∧ Aside0 (kq ≤ k) ∧ Aside0 (Kd.S (Kd.slice 3 (Kd.int .i64)) 43 w' w.heap.size (fun _ => True) v246 x5_1) ∧ Aside0 (Below w.heap.size w w'))
   case atStart => exact ⟨(y245), ((l0.length : Int)), (by first | rfl | (simp; done) | (simp [*]; done)), H', ⟨Nat.le_refl _⟩, ⟨by (with_reducible repeat (first | apply Kd.S_alloc | apply Kd.S_drewN | apply Kd.S_drew)); exact HO247.out⟩, ⟨by repeat (first | (with_reducible first | exact HB.out | apply below_alloc | apply pw_below_drewN | apply below_drew1) | exact HB.out)⟩⟩
   case round =>
    clear H'
    try clear c1
    try clear p2
    try clear c4
    try clear c4b0
    try clear c4b1
    try clear c5
    try clear c5b0
    try clear c5b1
    try clear p6
    obtain ⟨x5_1, x6_1, rfl, HA, HK1, HO_5, HB⟩ := hrel
    cases gk with
    | zero => exact absurd HA.out (by simp [diff_table.l0])
    | succ k1 =>
     have H := HA.out
     clear HA
     simp only [diff_table.l0] at H
     by_cases c8 : x6_1 ≥ 0
     ·rw [if_pos c8] at H
      have c8b0 : decide (0 ≤ x6_1) = true := decide_eq_true c8
      clear c8
      obtain ⟨ji9, hji9⟩ : ∃ j_ : Int, (wrap64 ((l1.length : Int) + 1)) = j_ := ⟨_, rfl⟩
      replace H : (if 0 ≤ (ji9) then (if (ji9 : Int).toNat ≤ 35184372088832 then (if 0 ≤ x6_1 then (if x6_1 < (x5_1.length : Int) then (diff_table.l1 k1 l0 l1 (x5_1.set (x6_1 : Int).toNat (List.replicate (ji9 : Int).toNat 0)) x6_1 (l1.length : Int)) else (none)) else (none)) else (none)) else (none)) = some r := by first | (rw [hji9] at H; exact H) | (simp only [hji9] at H ⊢; exact H)
      have hji9w : (IntKind.i64.wrap ((l1.length : Int) + 1)) = ji9 := (i64_w _).trans hji9
      by_cases c10 : 0 ≤ (ji9)
      ·rw [if_pos c10] at H
       have c10b0 := eq_true c10
       have c10b1 : decide (0 ≤ (ji9)) = true := decide_eq_true c10
       clear c10
       by_cases c11 : (ji9 : Int).toNat ≤ 35184372088832
       ·rw [if_pos c11] at H
        have c11b0 := eq_true c11
        have c11b1 : decide ((ji9 : Int).toNat ≤ 35184372088832) = true := decide_eq_true c11
        clear c11
        obtain ⟨y248, hy248⟩ : ∃ y_ : List Int, y_ = (List.replicate (ji9 : Int).toNat 0) := ⟨_, rfl⟩
        replace H : (if 0 ≤ x6_1 then (if x6_1 < (x5_1.length : Int) then (diff_table.l1 k1 l0 l1 (x5_1.set (x6_1 : Int).toNat y248) x6_1 (l1.length : Int)) else (none)) else (none)) = some r := by first | (rw [hy248]; with_reducible exact H) | (have H2_ := (Option.bind_some _ _).symm.trans H; rw [hy248]; with_reducible exact H2_) | (have H2_ := (Option.bind_some _ _).symm.trans H; with_reducible exact H2_) | with_reducible exact H | (rw [hy248]; exact H) | exact H
        have Ny248 := Aside0.mk hy248
        clear hy248
        by_cases c12 : 0 ≤ x6_1
        ·rw [if_pos c12] at H
         have c12b0 : decide (0 ≤ x6_1) = true := decide_eq_true c12
         clear c12
         by_cases c13 : x6_1 < (x5_1.length : Int)
         ·rw [if_pos c13] at H
          have c13b0 : decide (x6_1 < (x5_1.length : Int)) = true := decide_eq_true c13
          clear c13
          obtain ⟨y251, hy251⟩ : ∃ y_ : List (List Int), y_ = (x5_1.set (x6_1 : Int).toNat y248) := ⟨_, rfl⟩
          replace H : (diff_table.l1 k1 l0 l1 y251 x6_1 (l1.length : Int)) = some r := by first | (rw [hy251]; with_reducible exact H) | (have H2_ := (Option.bind_some _ _).symm.trans H; rw [hy251]; with_reducible exact H2_) | (have H2_ := (Option.bind_some _ _).symm.trans H; with_reducible exact H2_) | with_reducible exact H | (rw [hy251]; exact H) | exact H
          have Ny251 := Aside0.mk hy251
          clear hy251
          have H' := Aside0.mk H
          clear H
          go_wp2_with (first | ((with_reducible refine gate_dst (N := 23) rfl ?_); refine Kd.R_make (Kd.int .i64) _ 3 rfl (N := 23) rfl 43 _ _ rfl ji9 rfl rfl Try.underlying43 (.int .i64 0) 8 info3 rfl (by decide) (by omega) 0 (ok := fun _ => True) (okp := fun _ => True) rfl (fun _ hk => hk) trivial (of_decide_eq_true (by assumption)) (Nat.le_trans (Nat.mul_le_mul_right _ (of_decide_eq_true (by assumption) : ji9.toNat ≤ 35184372088832)) (by omega)) (Below.refl _ _) (Nat.le_refl _) ?_; intro v249 w15 ho16 hb hg_ hnew_; clear hg_ hnew_; (first | rw [← Ny248.out] at ho16 | (simp only [Int.reduceToNat] at ho16; rw [← Ny248.out] at ho16)); have n0_ := Aside0.mk (Kd.S_elder' (by (with_reducible repeat (first | apply Kd.S_alloc | apply Kd.S_drewN | apply Kd.S_drew)); exact HO_5.out) (Kd.R_base ho16) hb); have n1_ := Aside0.mk (Kd.R_lower ho16 (below_size (by with_reducible repeat first | exact HB.out | apply below_alloc | apply pw_below_drewN | apply below_drew1))); have n2_ := Aside0.mk (below_step (by with_reducible repeat first | exact HB.out | apply below_alloc | apply pw_below_drewN | apply below_drew1) hb); clear HO_5; clear HB; have HO_5 := n0_; have HO250 := n1_; have HB := n2_; clear n0_ n1_ n2_; clear hb ho16; have p14 : 0 ≤ (x6_1 : Int) := of_decide_eq_true (by assumption); have q14 : (x6_1 : Int) < ((x5_1.length : Int) : Int) := of_decide_eq_true (by assumption); obtain ⟨go14, co14, eo14, gb14, gl14, cl14, HG14⟩ := Kd.S_form HO_5.out (by omega); (first | cases eo14 | (injection eo14 with ea_ en_ ec_; (first | subst ea_ | (injection ea_ with ea_; subst ea_)); subst ec_; clear en_)); have GB14 := Aside0.mk gb14; have GG14 := Aside0.mk HG14; clear gb14 gl14 HG14; obtain ⟨_, ce14, hcl14, hM14, hcc14, hfr14, _, _⟩ := Kd.S_elem HO_5.out [] (x6_1 : Int) p14 q14; obtain ⟨ve14_0, rfl, ge14_0⟩ := hM14; have hx14_0 := hcc14 0 _ rfl; have hf14_0 := hfr14 0; (try simp only [show ((Kd.slice 3 (Kd.int .i64))).sz = 1 from rfl, Nat.mul_one, Nat.add_zero] at hx14_0); (try simp only [show ((Kd.slice 3 (Kd.int .i64))).sz = 1 from rfl, Nat.mul_one, Nat.add_zero] at hf14_0); clear hcl14 hcc14 hfr14; replace p14 := eq_true p14; replace q14 := eq_true q14; have n_ := Aside0.mk (Kd.S_mono (ok' := (fun k_ => some k_ ≠ (v249 : Value).ownBlock)) HO_5.out (fun k_ hk => hk.2)); clear HO_5; have HO_5 := n_; clear n_; have HX17 := Aside0.mk (show Kd.S (Kd.slice 3 (Kd.int .i64)) 43 w15 w.heap.size (fun k_ => ((fun _ => True)) k_ ∧ ¬ ((fun k_ => some k_ = (v249 : Value).ownBlock)) k_) (.slice (some ⟨go14, 0, none⟩) x5_1.length co14) x5_1 from (by (with_reducible repeat (first | apply Kd.S_alloc | apply Kd.S_drewN | apply Kd.S_drew)); exact Kd.S_mono HO_5.out (fun k_ hk => ⟨trivial, fun e_ => hk e_⟩))); obtain ⟨oki17, ce17, hcl17, hM17, hcc17, hfr17, hoki17, hH17⟩ := Kd.S_elem HX17.out [] (x6_1 : Int) (of_decide_eq_true (by assumption)) (by have h_ : (x6_1 : Int) < ((x5_1.length : Int) : Int) := of_decide_eq_true (by assumption); first | exact h_ | (have e_ := (Kd.S_reads' HO_5.out).1; omega) | simpa using h_); obtain ⟨ve17_0, rfl, ge17_0⟩ := hM17; have HP17 := Kd.S_seg hH17 (of_decide_eq_true (by assumption)) (by have h_ : (x6_1 : Int) < ((x5_1.length : Int) : Int) := of_decide_eq_true (by assumption); first | exact h_ | (have e_ := (Kd.S_reads' HO_5.out).1; omega) | simpa using h_) (seg := [v249]) (j := 0) (show 1 ≤ 1 from by decide) (x' := y248) (Kd.M_row (Kd.R_mono (Kd.R_tight rfl (Kd.R_mono (ok' := fun k_ => ((fun _ => True)) k_ ∧ k_ ≠ go14) (Kd.R_apart' (HO250.out) (Kd.S_typed HO_5.out) (by decide)) (fun k_ hk => ⟨trivial, fun e_ => (hk.2) (by rw [e_]; rfl)⟩))) (fun _ h_ => Or.inr (h_)))) (fun _ hk => hk) (fun k_ hk_ => ((Kd.R_mono (ok' := fun k_ => ((fun _ => True)) k_ ∧ k_ ≠ go14) (Kd.R_apart' (HO250.out) (Kd.S_typed HO_5.out) (by decide)) (fun k_ hk => ⟨trivial, fun e_ => (hk.2) (by rw [e_]; rfl)⟩))).1 k_ hk_.symm); have hx17_0 := hcc17 0 _ rfl; (try simp only [show ((Kd.slice 3 (Kd.int .i64))).sz = 1 from rfl, Nat.mul_one, Nat.add_zero] at hx17_0); have hf17_0 := hfr17 0; (try simp only [show ((Kd.slice 3 (Kd.int .i64))).sz = 1 from rfl, Nat.mul_one, Nat.add_zero] at hf17_0); clear hcl17 hcc17 hfr17 hoki17 hH17; (try simp only [show ((Kd.slice 3 (Kd.int .i64))).sz = 1 from rfl, Nat.mul_one, Nat.add_zero] at HP17); obtain ⟨Av_, cv_, ev_⟩ := Kd.R_slice HO250.out; subst ev_) | ((with_reducible refine gate_store (t := 43) (p := 24) rfl ?_); refine store_event (t := 43) (p := 24) (v := ?vo_w18) (w1 := (w15.setCell ⟨go14, (x6_1 : Int).toNat, none⟩ (.slice Av_ y248.length cv_))) ?hg ?ho ?hn ?hr ?_; (case ho => rfl); (case hg => rfl); (case hn => rfl); (case hr => first | (go_simp; done) | (go_simp; rfl)); intro w18 hw; have hg : w15.grownBy w18 (some go14) := (by rw [hw]; exact HP17.2); have hp_ : Kd.S (Kd.slice 3 (Kd.int .i64)) 43 w18 w.heap.size (fun _ => True) (.slice (some ⟨go14, 0, none⟩) x5_1.length co14) y251 := (by rw [hw, Ny251.out]; exact HP17.1); clear HP17; have n0_ := Aside0.mk (hp_); have n1_ := Aside0.mk ((by rw [hw]; exact below_set (HB.out) GB14.out : Below w.heap.size w w18)); clear HO_5; clear HB; clear HO250; have HO_5 := n0_; have HB := n1_; clear n0_ n1_; clear hg hw hp_))
          go_loopg [7] k1 (fun kq v7 w' => ∃ (x5_2 : List (List Int)) (x7_2 : Int), v7 = .int .i64 x7_2 ∧ Aside0 (diff_table.l1 kq l0 l1 x5_2 x6_1 x7_2 = some r) ∧ Aside0 (kq ≤ k1) ∧ Aside0 (Kd.S (Kd.slice 3 (Kd.int .i64)) 43 w' w.heap.size (fun _ => True) (.slice (some ⟨go14, 0, none⟩) x5_1.length co14) x5_2) ∧ Aside0 (Below w.heap.size w w'))
          case atStart => exact ⟨(y251), ((l1.length : Int)), (by first | rfl | (simp; done) | (simp [*]; done)), H', ⟨Nat.le_refl _⟩, ⟨by (with_reducible repeat (first | apply Kd.S_alloc | apply Kd.S_drewN | apply Kd.S_drew)); exact HO_5.out⟩, ⟨by repeat (first | (with_reducible first | exact HB.out | apply below_alloc | apply pw_below_drewN | apply below_drew1) | exact HB.out)⟩⟩
          case round =>
           clear H'
           try clear c1
           try clear p1
           try clear q1
           try clear hx1
           try clear p2
           try clear c4
           try clear c4b0
           try clear c4b1
           try clear c5
           try clear c5b0
           try clear c5b1
           try clear p6
           try clear c8
           try clear c8b0
           try clear c10
           try clear c10b0
           try clear c10b1
           try clear c11
           try clear c11b0
           try clear c11b1
           try clear c12
           try clear c12b0
           try clear c13
           try clear c13b0
           try clear c14
           try clear p14
           try clear q14
           try clear hx14
           try clear hf14
           try clear c17
           try clear hx17
           try clear hf17
           try clear hx14_0
           try clear hx17_0
           try clear p14
           try clear p2
           try clear p6
           try clear q14
           obtain ⟨x5_2, x7_2, rfl, HA, HK2, HO_5, HB⟩ := hrel
           have hl5_2 := (Kd.S_reads' HO_5.out).1
           rw [hl5_2] at HO_5
           (try simp only [hl5_2])
           cases gk with
           | zero => exact absurd HA.out (by simp [diff_table.l1])
           | succ k2 =>
            have H := HA.out
            clear HA
            simp only [diff_table.l1] at H
            by_cases c19 : x7_2 ≥ 0
            ·rw [if_pos c19] at H
             have c19b0 : decide (0 ≤ x7_2) = true := decide_eq_true c19
             clear c19
             by_cases c20 : x6_1 = (l0.length : Int)
             ·rw [if_pos c20] at H
              have c20b0 : (x6_1 == (l0.length : Int)) = true := beq_iff_eq.mpr c20
              have c20b1 : (x6_1 != (l0.length : Int)) = false := bne_eq_false_iff_eq.mpr c20
              clear c20
              by_cases c21 : 0 ≤ x6_1
              ·rw [if_pos c21] at H
               have c21b0 : decide (0 ≤ x6_1) = true := decide_eq_true c21
               clear c21
               by_cases c22 : x6_1 < (x5_2.length : Int)
               ·rw [if_pos c22] at H
                have c22b0 : decide (x6_1 < (x5_2.length : Int)) = true := decide_eq_true c22
                clear c22
                by_cases c23 : 0 ≤ x7_2
                ·rw [if_pos c23] at H
                 have c23b0 : decide (0 ≤ x7_2) = true := decide_eq_true c23
                 clear c23
                 by_cases c24 : x7_2 < ((rd_L7 x5_2 x6_1).length : Int)
                 ·rw [if_pos c24] at H
                  have c24b0 : decide (x7_2 < ((rd_L7 x5_2 x6_1).length : Int)) = true := decide_eq_true c24
                  clear c24
                  obtain ⟨y253, hy253⟩ : ∃ y_ : List Int, y_ = ((rd_L7 x5_2 x6_1).set (x7_2 : Int).toNat (wrap64 ((l1.length : Int) - x7_2))) := ⟨_, rfl⟩
                  replace H : (diff_table.l1 k2 l0 l1 (x5_2.set (x6_1 : Int).toNat y253) x6_1 (wrap64 (x7_2 - 1))) = some r := by first | (rw [hy253]; with_reducible exact H) | (have H2_ := (Option.bind_some _ _).symm.trans H; rw [hy253]; with_reducible exact H2_) | (have H2_ := (Option.bind_some _ _).symm.trans H; with_reducible exact H2_) | with_reducible exact H | (rw [hy253]; exact H) | exact H
                  have Ny253 := Aside0.mk hy253
                  clear hy253
                  obtain ⟨y255, hy255⟩ : ∃ y_ : List (List Int), y_ = (x5_2.set (x6_1 : Int).toNat y253) := ⟨_, rfl⟩
                  replace H : (diff_table.l1 k2 l0 l1 y255 x6_1 (wrap64 (x7_2 - 1))) = some r := by first | (rw [hy255]; with_reducible exact H) | (have H2_ := (Option.bind_some _ _).symm.trans H; rw [hy255]; with_reducible exact H2_) | (have H2_ := (Option.bind_some _ _).symm.trans H; with_reducible exact H2_) | with_reducible exact H | (rw [hy255]; exact H) | exact H
                  have Ny255 := Aside0.mk hy255
                  clear hy255
                  have H' := Aside0.mk H
                  clear H
                  have p252 : 0 ≤ (x6_1 : Int) := of_decide_eq_true (by assumption)
                  have q252 : x6_1 < (x5_2.length : Int) := of_decide_eq_true (by assumption)
                  obtain ⟨ad252, A252_0, c252_0, e252, hx252_0, hl252_0, hi252_0⟩ := at_L7 (Kd.S_reads' HO_5.out).2.2 x6_1 p252 q252
                  obtain rfl : (⟨go14, 0, none⟩ : Addr) = ad252 := (by injection e252)
                  obtain ⟨ce252, hce252, hMe252, hcc252⟩ := Kd.S_get HO_5.out [] x6_1 p252 (by first | exact q252 | exact of_decide_eq_true (by assumption) | (have e_ := (Kd.S_reads' HO_5.out).1; omega))
                  obtain ⟨ve252_0, rfl, ge252_0⟩ := hMe252
                  have hv252_0 := hcc252 0 _ rfl
                  rw [Nat.add_zero, show ((Kd.slice 3 (Kd.int .i64))).sz = 1 from rfl, Nat.mul_one] at hv252_0
                  replace hv252_0 := Option.some.inj (hv252_0.symm.trans hx252_0)
                  rw [hv252_0] at ge252_0
                  have HL252_0 := Aside0.mk (show Kd.R (Kd.int .i64) 3 _ _ _ _ (rd_L7 x5_2 x6_1) from ge252_0)
                  clear hv252_0 ge252_0
                  have HX252_0 := Aside0.mk hx252_0
                  clear hcc252 hce252
                  (first | simp only [add_plain] at hx252_0 | simp only [add_at] at hx252_0 | simp only [Addr.add, Nat.zero_add] at hx252_0 | skip)
                  have HR252_0 := Aside0.mk hi252_0
                  have HC252_0 := Aside0.mk hl252_0
                  clear hi252_0 hl252_0
                  replace p252 := eq_true p252
                  replace q252 := eq_true q252
                  have p25 : 0 ≤ (x7_2 : Int) := of_decide_eq_true (by assumption)
                  have q25 : (x7_2 : Int) < (((rd_L7 x5_2 x6_1).length : Int) : Int) := of_decide_eq_true (by assumption)
                  obtain ⟨go25, co25, eo25, gb25, gl25, cl25, HG25⟩ := Kd.R_form HL252_0.out (by omega)
                  (first | cases eo25 | (injection eo25 with ea_ en_ ec_; (first | subst ea_ | (injection ea_ with ea_; subst ea_)); subst ec_; clear en_))
                  have GB25 := Aside0.mk gb25
                  have GG25 := Aside0.mk HG25
                  clear gb25 gl25 HG25
                  obtain ⟨hx25_0, hf25_0⟩ := Kd.R_celln 0 HL252_0.out (x7_2 : Int) p25 q25
                  replace p25 := eq_true p25
                  replace q25 := eq_true q25
                  have hq26 : (x6_1 : Int) < (x5_2.length : Int) := (by have h_ : (x6_1 : Int) < ((x5_2.length : Int) : Int) := of_decide_eq_true (by assumption); first | exact h_ | (have e_ := (Kd.S_reads' HO_5.out).1; omega) | simpa only [List.length_set, List.length_set] using h_)
                  obtain ⟨oki26, ce26, hcl26, hM26, hcc26, hok26, hbk26⟩ := Kd.S_borrow HO_5.out [] (x6_1 : Int) (of_decide_eq_true (by assumption)) hq26
                  obtain ⟨ve26_0, rfl, ge26_0⟩ := hM26
                  have hv26 := hcc26 0 _ rfl
                  rw [Nat.add_zero, show ((Kd.slice 3 (Kd.int .i64))).sz = 1 from rfl, Nat.mul_one] at hv26
                  replace hv26 := Option.some.inj (hv26.symm.trans HX252_0.out)
                  subst hv26
                  clear hcc26 hcl26
                  replace ge26_0 := (show Kd.R (Kd.int .i64) 3 _ _ _ _ (rd_L7 x5_2 x6_1) from ge26_0)
                  have HP26 := Kd.R_putg ge26_0 (x7_2 : Int) (wrap64 ((l1.length : Int) - x7_2))
                  go_wp2_with (first | ((with_reducible refine gate_store (t := 3) (p := 111) rfl ?_); refine store_event (t := 3) (p := 111) (v := ?vo_w27) (w1 := (wr.setCell ⟨go25, (x7_2 : Int).toNat, none⟩ (.int .i64 (wrap64 ((l1.length : Int) - x7_2))))) ?hg ?ho ?hn ?hr ?_; (case ho => rfl); (case hg => rfl); (case hn => rfl); (case hr => first | (go_simp; done) | (go_simp; rfl)); intro w27 hw; have hg : wr.grownBy w27 (some go25) := (by rw [hw]; exact HP26.2); have hz_ : Kd.R (Kd.int .i64) 3 w27 w.heap.size oki26 (.slice (some ⟨go25, 0, none⟩) (rd_L7 x5_2 x6_1).length c252_0) y253 := (by rw [hw, Ny253.out]; exact HP26.1); have hp_ : Kd.S (Kd.slice 3 (Kd.int .i64)) 43 w27 w.heap.size (fun _ => True) (.slice (some ⟨go14, 0, none⟩) x5_2.length co14) y255 := (by rw [Ny255.out]; exact hbk26 hg (fun k_ e_ => by injection e_ with e_; subst e_; exact ge26_0.1 _ rfl) (Kd.M_row hz_)); have hm_ := Kd.R_mono hz_ hok26; clear HP26 hbk26; have n0_ := Aside0.mk (hp_); have n1_ := Aside0.mk ((by rw [hw]; exact below_set (HB.out) GB25.out : Below w.heap.size w w27)); have n2_ := Aside0.mk (hm_); have n3_ := Aside0.mk ((Kd.R_reads' hm_).2.1); clear HO_5; clear HB; clear HL252_0; have HO_5 := n0_; have HB := n1_; have HL282 := n2_; have HC254 := n3_; clear n0_ n1_ n2_ n3_; clear hg hw hp_ hz_ hm_ hok26))
                  (try simp only [← hl5_2])
                  go_roundg k2
                  case measure => have := HK1.out; have := HK2.out; omega
                  case rel => exact ⟨(y255), (wrap64 (x7_2 - 1)), (by first | rfl | (simp; done) | (simp [*]; done)), H', ⟨by have := HK1.out; have := HK2.out; omega⟩, ⟨by (try simp only [hl5_2]); (with_reducible repeat (first | apply Kd.S_alloc | apply Kd.S_drewN | apply Kd.S_drew)); exact HO_5.out⟩, ⟨by repeat (first | (with_reducible first | exact HB.out | apply below_alloc | apply pw_below_drewN | apply below_drew1) | exact HB.out)⟩⟩
                 ·rw [if_neg c24] at H
                  exact absurd H (by simp)
                ·rw [if_neg c23] at H
                 exact absurd H (by simp)
               ·rw [if_neg c22] at H
                exact absurd H (by simp)
              ·rw [if_neg c21] at H
               exact absurd H (by simp)
             ·rw [if_neg c20] at H
              have c20b0 : (x6_1 == (l0.length : Int)) = false := beq_eq_false_iff_ne.mpr c20
              have c20b1 : (x6_1 != (l0.length : Int)) = true := bne_iff_ne.mpr c20
              by_cases c28 : x7_2 = (l1.length : Int)
              ·rw [if_pos c28] at H
               have c28b0 : (x7_2 == (l1.length : Int)) = true := beq_iff_eq.mpr c28
               have c28b1 : (x7_2 != (l1.length : Int)) = false := bne_eq_false_iff_eq.mpr c28
               clear c28
               by_cases c29 : 0 ≤ x6_1
               ·rw [if_pos c29] at H
                have c29b0 : decide (0 ≤ x6_1) = true := decide_eq_true c29
                clear c29
                by_cases c30 : x6_1 < (x5_2.length : Int)
                ·rw [if_pos c30] at H
                 have c30b0 : decide (x6_1 < (x5_2.length : Int)) = true := decide_eq_true c30
                 clear c30
                 by_cases c31 : 0 ≤ x7_2
                 ·rw [if_pos c31] at H
                  have c31b0 : decide (0 ≤ x7_2) = true := decide_eq_true c31
                  clear c31
                  by_cases c32 : x7_2 < ((rd_L7 x5_2 x6_1).length : Int)
                  ·rw [if_pos c32] at H
                   have c32b0 : decide (x7_2 < ((rd_L7 x5_2 x6_1).length : Int)) = true := decide_eq_true c32
                   clear c32
                   obtain ⟨y257, hy257⟩ : ∃ y_ : List Int, y_ = ((rd_L7 x5_2 x6_1).set (x7_2 : Int).toNat (wrap64 ((l0.length : Int) - x6_1))) := ⟨_, rfl⟩
                   replace H : (diff_table.l1 k2 l0 l1 (x5_2.set (x6_1 : Int).toNat y257) x6_1 (wrap64 (x7_2 - 1))) = some r := by first | (rw [hy257]; with_reducible exact H) | (have H2_ := (Option.bind_some _ _).symm.trans H; rw [hy257]; with_reducible exact H2_) | (have H2_ := (Option.bind_some _ _).symm.trans H; with_reducible exact H2_) | with_reducible exact H | (rw [hy257]; exact H) | exact H
                   have Ny257 := Aside0.mk hy257
                   clear hy257
                   obtain ⟨y259, hy259⟩ : ∃ y_ : List (List Int), y_ = (x5_2.set (x6_1 : Int).toNat y257) := ⟨_, rfl⟩
                   replace H : (diff_table.l1 k2 l0 l1 y259 x6_1 (wrap64 (x7_2 - 1))) = some r := by first | (rw [hy259]; with_reducible exact H) | (have H2_ := (Option.bind_some _ _).symm.trans H; rw [hy259]; with_reducible exact H2_) | (have H2_ := (Option.bind_some _ _).symm.trans H; with_reducible exact H2_) | with_reducible exact H | (rw [hy259]; exact H) | exact H
                   have Ny259 := Aside0.mk hy259
                   clear hy259
                   have H' := Aside0.mk H
                   clear H
                   have p256 : 0 ≤ (x6_1 : Int) := of_decide_eq_true (by assumption)
                   have q256 : x6_1 < (x5_2.length : Int) := of_decide_eq_true (by assumption)
                   obtain ⟨ad256, A256_0, c256_0, e256, hx256_0, hl256_0, hi256_0⟩ := at_L7 (Kd.S_reads' HO_5.out).2.2 x6_1 p256 q256
                   obtain rfl : (⟨go14, 0, none⟩ : Addr) = ad256 := (by injection e256)
                   obtain ⟨ce256, hce256, hMe256, hcc256⟩ := Kd.S_get HO_5.out [] x6_1 p256 (by first | exact q256 | exact of_decide_eq_true (by assumption) | (have e_ := (Kd.S_reads' HO_5.out).1; omega))
                   obtain ⟨ve256_0, rfl, ge256_0⟩ := hMe256
                   have hv256_0 := hcc256 0 _ rfl
                   rw [Nat.add_zero, show ((Kd.slice 3 (Kd.int .i64))).sz = 1 from rfl, Nat.mul_one] at hv256_0
                   replace hv256_0 := Option.some.inj (hv256_0.symm.trans hx256_0)
                   rw [hv256_0] at ge256_0
                   have HL256_0 := Aside0.mk (show Kd.R (Kd.int .i64) 3 _ _ _ _ (rd_L7 x5_2 x6_1) from ge256_0)
                   clear hv256_0 ge256_0
                   have HX256_0 := Aside0.mk hx256_0
                   clear hcc256 hce256
                   (first | simp only [add_plain] at hx256_0 | simp only [add_at] at hx256_0 | simp only [Addr.add, Nat.zero_add] at hx256_0 | skip)
                   have HR256_0 := Aside0.mk hi256_0
                   have HC256_0 := Aside0.mk hl256_0
                   clear hi256_0 hl256_0
                   replace p256 := eq_true p256
                   replace q256 := eq_true q256
                   have p33 : 0 ≤ (x7_2 : Int) := of_decide_eq_true (by assumption)
                   have q33 : (x7_2 : Int) < (((rd_L7 x5_2 x6_1).length : Int) : Int) := of_decide_eq_true (by assumption)
                   obtain ⟨go33, co33, eo33, gb33, gl33, cl33, HG33⟩ := Kd.R_form HL256_0.out (by omega)
                   (first | cases eo33 | (injection eo33 with ea_ en_ ec_; (first | subst ea_ | (injection ea_ with ea_; subst ea_)); subst ec_; clear en_))
                   have GB33 := Aside0.mk gb33
                   have GG33 := Aside0.mk HG33
                   clear gb33 gl33 HG33
                   obtain ⟨hx33_0, hf33_0⟩ := Kd.R_celln 0 HL256_0.out (x7_2 : Int) p33 q33
                   replace p33 := eq_true p33
                   replace q33 := eq_true q33
                   have hq34 : (x6_1 : Int) < (x5_2.length : Int) := (by have h_ : (x6_1 : Int) < ((x5_2.length : Int) : Int) := of_decide_eq_true (by assumption); first | exact h_ | (have e_ := (Kd.S_reads' HO_5.out).1; omega) | simpa only [List.length_set, List.length_set] using h_)
                   obtain ⟨oki34, ce34, hcl34, hM34, hcc34, hok34, hbk34⟩ := Kd.S_borrow HO_5.out [] (x6_1 : Int) (of_decide_eq_true (by assumption)) hq34
                   obtain ⟨ve34_0, rfl, ge34_0⟩ := hM34
                   have hv34 := hcc34 0 _ rfl
                   rw [Nat.add_zero, show ((Kd.slice 3 (Kd.int .i64))).sz = 1 from rfl, Nat.mul_one] at hv34
                   replace hv34 := Option.some.inj (hv34.symm.trans HX256_0.out)
                   subst hv34
                   clear hcc34 hcl34
                   replace ge34_0 := (show Kd.R (Kd.int .i64) 3 _ _ _ _ (rd_L7 x5_2 x6_1) from ge34_0)
                   have HP34 := Kd.R_putg ge34_0 (x7_2 : Int) (wrap64 ((l0.length : Int) - x6_1))
                   go_wp2_with (first | ((with_reducible refine gate_store (t := 3) (p := 126) rfl ?_); refine store_event (t := 3) (p := 126) (v := ?vo_w35) (w1 := (wr.setCell ⟨go33, (x7_2 : Int).toNat, none⟩ (.int .i64 (wrap64 ((l0.length : Int) - x6_1))))) ?hg ?ho ?hn ?hr ?_; (case ho => rfl); (case hg => rfl); (case hn => rfl); (case hr => first | (go_simp; done) | (go_simp; rfl)); intro w35 hw; have hg : wr.grownBy w35 (some go33) := (by rw [hw]; exact HP34.2); have hz_ : Kd.R (Kd.int .i64) 3 w35 w.heap.size oki34 (.slice (some ⟨go33, 0, none⟩) (rd_L7 x5_2 x6_1).length c256_0) y257 := (by rw [hw, Ny257.out]; exact HP34.1); have hp_ : Kd.S (Kd.slice 3 (Kd.int .i64)) 43 w35 w.heap.size (fun _ => True) (.slice (some ⟨go14, 0, none⟩) x5_2.length co14) y259 := (by rw [Ny259.out]; exact hbk34 hg (fun k_ e_ => by injection e_ with e_; subst e_; exact ge34_0.1 _ rfl) (Kd.M_row hz_)); have hm_ := Kd.R_mono hz_ hok34; clear HP34 hbk34; have n0_ := Aside0.mk (hp_); have n1_ := Aside0.mk ((by rw [hw]; exact below_set (HB.out) GB33.out : Below w.heap.size w w35)); have n2_ := Aside0.mk (hm_); have n3_ := Aside0.mk ((Kd.R_reads' hm_).2.1); clear HO_5; clear HB; clear HL256_0; have HO_5 := n0_; have HB := n1_; have HL283 := n2_; have HC258 := n3_; clear n0_ n1_ n2_ n3_; clear hg hw hp_ hz_ hm_ hok34))
                   (try simp only [← hl5_2])
                   go_roundg k2
                   case measure => have := HK1.out; have := HK2.out; omega
                   case rel => exact ⟨(y259), (wrap64 (x7_2 - 1)), (by first | rfl | (simp; done) | (simp [*]; done)), H', ⟨by have := HK1.out; have := HK2.out; omega⟩, ⟨by (try simp only [hl5_2]); (with_reducible repeat (first | apply Kd.S_alloc | apply Kd.S_drewN | apply Kd.S_drew)); exact HO_5.out⟩, ⟨by repeat (first | (with_reducible first | exact HB.out | apply below_alloc | apply pw_below_drewN | apply below_drew1) | exact HB.out)⟩⟩
                  ·rw [if_neg c32] at H
                   exact absurd H (by simp)
                 ·rw [if_neg c31] at H
                  exact absurd H (by simp)
                ·rw [if_neg c30] at H
                 exact absurd H (by simp)
               ·rw [if_neg c29] at H
                exact absurd H (by simp)
              ·rw [if_neg c28] at H
               have c28b0 : (x7_2 == (l1.length : Int)) = false := beq_eq_false_iff_ne.mpr c28
               have c28b1 : (x7_2 != (l1.length : Int)) = true := bne_iff_ne.mpr c28
               by_cases c36 : 0 ≤ x6_1
               ·rw [if_pos c36] at H
                have c36b0 : decide (0 ≤ x6_1) = true := decide_eq_true c36
                clear c36
                by_cases c37 : x6_1 < (x5_2.length : Int)
                ·rw [if_pos c37] at H
                 have c37b0 : decide (x6_1 < (x5_2.length : Int)) = true := decide_eq_true c37
                 clear c37
                 obtain ⟨ji38, hji38⟩ : ∃ j_ : Int, (wrap64 (x6_1 + 1)) = j_ := ⟨_, rfl⟩
                 replace H : (if 0 ≤ (ji38) then (if (ji38) < (x5_2.length : Int) then (if 0 ≤ x7_2 then (if x7_2 < ((rd_L7 x5_2 (ji38)).length : Int) then (if 0 ≤ (wrap64 (x7_2 + 1)) then (if (wrap64 (x7_2 + 1)) < ((rd_L7 x5_2 x6_1).length : Int) then (if x7_2 < ((rd_L7 x5_2 x6_1).length : Int) then ((some (x5_2.set (x6_1 : Int).toNat ((rd_L7 x5_2 x6_1).set (x7_2 : Int).toNat (wrap64 (1 + (mn (rd (rd_L7 x5_2 (ji38)) x7_2) (rd (rd_L7 x5_2 x6_1) (wrap64 (x7_2 + 1))))))) : List (List Int))).bind fun y267 => (if x6_1 < (l0.length : Int) then (if x7_2 < (l1.length : Int) then ((diff_alike.f ((rd_T84 l0 x6_1).f0) ((rd_T84 l0 x6_1).f1) ((rd_T84 l0 x6_1).f2) ((rd_T84 l1 x7_2).f0) ((rd_T84 l1 x7_2).f1) ((rd_T84 l1 x7_2).f2)).bind fun t270 => (if t270 = true then (if x7_2 < ((rd_L7 y267 x6_1).length : Int) then (if (wrap64 (x7_2 + 1)) < ((rd_L7 y267 (ji38)).length : Int) then ((diff_price.f k2 ((rd_T84 l0 x6_1).f0) ((rd_T84 l0 x6_1).f1) ((rd_T84 l0 x6_1).f2) ((rd_T84 l1 x7_2).f0) ((rd_T84 l1 x7_2).f1) ((rd_T84 l1 x7_2).f2)).bind fun t278 => (diff_table.l1 k2 l0 l1 (y267.set (x6_1 : Int).toNat ((rd_L7 y267 x6_1).set (x7_2 : Int).toNat (mn (rd (rd_L7 y267 x6_1) x7_2) (wrap64 ((rd (rd_L7 y267 (ji38)) (wrap64 (x7_2 + 1))) + t278))))) x6_1 (wrap64 (x7_2 - 1)))) else (none)) else (none)) else (diff_table.l1 k2 l0 l1 y267 x6_1 (wrap64 (x7_2 - 1))))) else (none)) else (none))) else (none)) else (none)) else (none)) else (none)) else (none)) else (none)) else (none)) = some r := by first | (rw [hji38] at H; exact H) | (simp only [hji38] at H ⊢; exact H)
                 have hji38w : (IntKind.i64.wrap (x6_1 + 1)) = ji38 := (i64_w _).trans hji38
                 by_cases c39 : 0 ≤ (ji38)
                 ·rw [if_pos c39] at H
                  have c39b0 : decide (0 ≤ (ji38)) = true := decide_eq_true c39
                  clear c39
                  by_cases c40 : (ji38) < (x5_2.length : Int)
                  ·rw [if_pos c40] at H
                   have c40b0 : decide ((ji38) < (x5_2.length : Int)) = true := decide_eq_true c40
                   clear c40
                   by_cases c41 : 0 ≤ x7_2
                   ·rw [if_pos c41] at H
                    have c41b0 : decide (0 ≤ x7_2) = true := decide_eq_true c41
                    clear c41
                    by_cases c42 : x7_2 < ((rd_L7 x5_2 (ji38)).length : Int)
                    ·rw [if_pos c42] at H
                     have c42b0 : decide (x7_2 < ((rd_L7 x5_2 (ji38)).length : Int)) = true := decide_eq_true c42
                     clear c42
                     obtain ⟨ji43, hji43⟩ : ∃ j_ : Int, (wrap64 (x7_2 + 1)) = j_ := ⟨_, rfl⟩
                     replace H : (if 0 ≤ (ji43) then (if (ji43) < ((rd_L7 x5_2 x6_1).length : Int) then (if x7_2 < ((rd_L7 x5_2 x6_1).length : Int) then ((some (x5_2.set (x6_1 : Int).toNat ((rd_L7 x5_2 x6_1).set (x7_2 : Int).toNat (wrap64 (1 + (mn (rd (rd_L7 x5_2 (ji38)) x7_2) (rd (rd_L7 x5_2 x6_1) (ji43)))))) : List (List Int))).bind fun y267 => (if x6_1 < (l0.length : Int) then (if x7_2 < (l1.length : Int) then ((diff_alike.f ((rd_T84 l0 x6_1).f0) ((rd_T84 l0 x6_1).f1) ((rd_T84 l0 x6_1).f2) ((rd_T84 l1 x7_2).f0) ((rd_T84 l1 x7_2).f1) ((rd_T84 l1 x7_2).f2)).bind fun t270 => (if t270 = true then (if x7_2 < ((rd_L7 y267 x6_1).length : Int) then (if (ji43) < ((rd_L7 y267 (ji38)).length : Int) then ((diff_price.f k2 ((rd_T84 l0 x6_1).f0) ((rd_T84 l0 x6_1).f1) ((rd_T84 l0 x6_1).f2) ((rd_T84 l1 x7_2).f0) ((rd_T84 l1 x7_2).f1) ((rd_T84 l1 x7_2).f2)).bind fun t278 => (diff_table.l1 k2 l0 l1 (y267.set (x6_1 : Int).toNat ((rd_L7 y267 x6_1).set (x7_2 : Int).toNat (mn (rd (rd_L7 y267 x6_1) x7_2) (wrap64 ((rd (rd_L7 y267 (ji38)) (ji43)) + t278))))) x6_1 (wrap64 (x7_2 - 1)))) else (none)) else (none)) else (diff_table.l1 k2 l0 l1 y267 x6_1 (wrap64 (x7_2 - 1))))) else (none)) else (none))) else (none)) else (none)) else (none)) = some r := by first | (rw [hji43] at H; exact H) | (simp only [hji43] at H ⊢; exact H)
                     have hji43w : (IntKind.i64.wrap (x7_2 + 1)) = ji43 := (i64_w _).trans hji43
                     by_cases c44 : 0 ≤ (ji43)
                     ·rw [if_pos c44] at H
                      have c44b0 : decide (0 ≤ (ji43)) = true := decide_eq_true c44
                      clear c44
                      by_cases c45 : (ji43) < ((rd_L7 x5_2 x6_1).length : Int)
                      ·rw [if_pos c45] at H
                       have c45b0 : decide ((ji43) < ((rd_L7 x5_2 x6_1).length : Int)) = true := decide_eq_true c45
                       clear c45
                       obtain ⟨ji46, hji46⟩ : ∃ j_ : Int, (mn (rd (rd_L7 x5_2 (ji38)) x7_2) (rd (rd_L7 x5_2 x6_1) (ji43))) = j_ := ⟨_, rfl⟩
                       replace H : (if x7_2 < ((rd_L7 x5_2 x6_1).length : Int) then ((some (x5_2.set (x6_1 : Int).toNat ((rd_L7 x5_2 x6_1).set (x7_2 : Int).toNat (wrap64 (1 + (ji46)))) : List (List Int))).bind fun y267 => (if x6_1 < (l0.length : Int) then (if x7_2 < (l1.length : Int) then ((diff_alike.f ((rd_T84 l0 x6_1).f0) ((rd_T84 l0 x6_1).f1) ((rd_T84 l0 x6_1).f2) ((rd_T84 l1 x7_2).f0) ((rd_T84 l1 x7_2).f1) ((rd_T84 l1 x7_2).f2)).bind fun t270 => (if t270 = true then (if x7_2 < ((rd_L7 y267 x6_1).length : Int) then (if (ji43) < ((rd_L7 y267 (ji38)).length : Int) then ((diff_price.f k2 ((rd_T84 l0 x6_1).f0) ((rd_T84 l0 x6_1).f1) ((rd_T84 l0 x6_1).f2) ((rd_T84 l1 x7_2).f0) ((rd_T84 l1 x7_2).f1) ((rd_T84 l1 x7_2).f2)).bind fun t278 => (diff_table.l1 k2 l0 l1 (y267.set (x6_1 : Int).toNat ((rd_L7 y267 x6_1).set (x7_2 : Int).toNat (mn (rd (rd_L7 y267 x6_1) x7_2) (wrap64 ((rd (rd_L7 y267 (ji38)) (ji43)) + t278))))) x6_1 (wrap64 (x7_2 - 1)))) else (none)) else (none)) else (diff_table.l1 k2 l0 l1 y267 x6_1 (wrap64 (x7_2 - 1))))) else (none)) else (none))) else (none)) = some r := by first | (rw [hji46] at H; exact H) | (simp only [hji46] at H ⊢; exact H)
                       have hji46_ : (if (rd (rd_L7 x5_2 x6_1) (ji43)) < (rd (rd_L7 x5_2 (ji38)) x7_2) then (rd (rd_L7 x5_2 x6_1) (ji43)) else (rd (rd_L7 x5_2 (ji38)) x7_2)) = ji46 := hji46
                       by_cases c47 : x7_2 < ((rd_L7 x5_2 x6_1).length : Int)
                       ·rw [if_pos c47] at H
                        have c47b0 : decide (x7_2 < ((rd_L7 x5_2 x6_1).length : Int)) = true := decide_eq_true c47
                        clear c47
                        obtain ⟨y265, hy265⟩ : ∃ y_ : List Int, y_ = ((rd_L7 x5_2 x6_1).set (x7_2 : Int).toNat (wrap64 (1 + (ji46)))) := ⟨_, rfl⟩
                        replace H : ((some (x5_2.set (x6_1 : Int).toNat y265 : List (List Int))).bind fun y267 => (if x6_1 < (l0.length : Int) then (if x7_2 < (l1.length : Int) then ((diff_alike.f ((rd_T84 l0 x6_1).f0) ((rd_T84 l0 x6_1).f1) ((rd_T84 l0 x6_1).f2) ((rd_T84 l1 x7_2).f0) ((rd_T84 l1 x7_2).f1) ((rd_T84 l1 x7_2).f2)).bind fun t270 => (if t270 = true then (if x7_2 < ((rd_L7 y267 x6_1).length : Int) then (if (ji43) < ((rd_L7 y267 (ji38)).length : Int) then ((diff_price.f k2 ((rd_T84 l0 x6_1).f0) ((rd_T84 l0 x6_1).f1) ((rd_T84 l0 x6_1).f2) ((rd_T84 l1 x7_2).f0) ((rd_T84 l1 x7_2).f1) ((rd_T84 l1 x7_2).f2)).bind fun t278 => (diff_table.l1 k2 l0 l1 (y267.set (x6_1 : Int).toNat ((rd_L7 y267 x6_1).set (x7_2 : Int).toNat (mn (rd (rd_L7 y267 x6_1) x7_2) (wrap64 ((rd (rd_L7 y267 (ji38)) (ji43)) + t278))))) x6_1 (wrap64 (x7_2 - 1)))) else (none)) else (none)) else (diff_table.l1 k2 l0 l1 y267 x6_1 (wrap64 (x7_2 - 1))))) else (none)) else (none))) = some r := by first | (rw [hy265]; with_reducible exact H) | (have H2_ := (Option.bind_some _ _).symm.trans H; rw [hy265]; with_reducible exact H2_) | (have H2_ := (Option.bind_some _ _).symm.trans H; with_reducible exact H2_) | with_reducible exact H | (rw [hy265]; exact H) | exact H
                        have Ny265 := Aside0.mk hy265
                        clear hy265
                        obtain ⟨y267, hy267⟩ : ∃ y_ : List (List Int), y_ = (x5_2.set (x6_1 : Int).toNat y265) := ⟨_, rfl⟩
                        replace H : (if x6_1 < (l0.length : Int) then (if x7_2 < (l1.length : Int) then ((diff_alike.f ((rd_T84 l0 x6_1).f0) ((rd_T84 l0 x6_1).f1) ((rd_T84 l0 x6_1).f2) ((rd_T84 l1 x7_2).f0) ((rd_T84 l1 x7_2).f1) ((rd_T84 l1 x7_2).f2)).bind fun t270 => (if t270 = true then (if x7_2 < ((rd_L7 y267 x6_1).length : Int) then (if (ji43) < ((rd_L7 y267 (ji38)).length : Int) then ((diff_price.f k2 ((rd_T84 l0 x6_1).f0) ((rd_T84 l0 x6_1).f1) ((rd_T84 l0 x6_1).f2) ((rd_T84 l1 x7_2).f0) ((rd_T84 l1 x7_2).f1) ((rd_T84 l1 x7_2).f2)).bind fun t278 => (diff_table.l1 k2 l0 l1 (y267.set (x6_1 : Int).toNat ((rd_L7 y267 x6_1).set (x7_2 : Int).toNat (mn (rd (rd_L7 y267 x6_1) x7_2) (wrap64 ((rd (rd_L7 y267 (ji38)) (ji43)) + t278))))) x6_1 (wrap64 (x7_2 - 1)))) else (none)) else (none)) else (diff_table.l1 k2 l0 l1 y267 x6_1 (wrap64 (x7_2 - 1))))) else (none)) else (none)) = some r := by first | (rw [hy267]; with_reducible exact H) | (have H2_ := (Option.bind_some _ _).symm.trans H; rw [hy267]; with_reducible exact H2_) | (have H2_ := (Option.bind_some _ _).symm.trans H; with_reducible exact H2_) | with_reducible exact H | (rw [hy267]; exact H) | exact H
                        have Ny267 := Aside0.mk hy267
                        clear hy267
                        by_cases c49 : x6_1 < (l0.length : Int)
                        ·rw [if_pos c49] at H
                         have c49b0 : decide (x6_1 < (l0.length : Int)) = true := decide_eq_true c49
                         clear c49
                         by_cases c50 : x7_2 < (l1.length : Int)
                         ·rw [if_pos c50] at H
                          have c50b0 : decide (x7_2 < (l1.length : Int)) = true := decide_eq_true c50
                          clear c50
                          replace H := Option.bind_eq_some_iff.mp H
                          obtain ⟨t270, A510, H⟩ := H
                          replace H : (if t270 = true then (if x7_2 < ((rd_L7 y267 x6_1).length : Int) then (if (ji43) < ((rd_L7 y267 (ji38)).length : Int) then ((diff_price.f k2 ((rd_T84 l0 x6_1).f0) ((rd_T84 l0 x6_1).f1) ((rd_T84 l0 x6_1).f2) ((rd_T84 l1 x7_2).f0) ((rd_T84 l1 x7_2).f1) ((rd_T84 l1 x7_2).f2)).bind fun t278 => (diff_table.l1 k2 l0 l1 (y267.set (x6_1 : Int).toNat ((rd_L7 y267 x6_1).set (x7_2 : Int).toNat (mn (rd (rd_L7 y267 x6_1) x7_2) (wrap64 ((rd (rd_L7 y267 (ji38)) (ji43)) + t278))))) x6_1 (wrap64 (x7_2 - 1)))) else (none)) else (none)) else (diff_table.l1 k2 l0 l1 y267 x6_1 (wrap64 (x7_2 - 1)))) = some r := H
                          have A51 := Aside0.mk A510
                          clear A510
                          by_cases c52 : t270 = true
                          ·subst c52
                           have H1 : (if x7_2 < ((rd_L7 y267 x6_1).length : Int) then (if (ji43) < ((rd_L7 y267 (ji38)).length : Int) then ((diff_price.f k2 ((rd_T84 l0 x6_1).f0) ((rd_T84 l0 x6_1).f1) ((rd_T84 l0 x6_1).f2) ((rd_T84 l1 x7_2).f0) ((rd_T84 l1 x7_2).f1) ((rd_T84 l1 x7_2).f2)).bind fun t278 => (diff_table.l1 k2 l0 l1 (y267.set (x6_1 : Int).toNat ((rd_L7 y267 x6_1).set (x7_2 : Int).toNat (mn (rd (rd_L7 y267 x6_1) x7_2) (wrap64 ((rd (rd_L7 y267 (ji38)) (ji43)) + t278))))) x6_1 (wrap64 (x7_2 - 1)))) else (none)) else (none)) = some r := by rw [if_pos rfl] at H; exact H
                           clear H
                           have H := H1
                           clear H1
                           by_cases c53 : x7_2 < ((rd_L7 y267 x6_1).length : Int)
                           ·rw [if_pos c53] at H
                            have c53b0 : decide (x7_2 < ((rd_L7 y267 x6_1).length : Int)) = true := decide_eq_true c53
                            clear c53
                            by_cases c54 : (ji43) < ((rd_L7 y267 (ji38)).length : Int)
                            ·rw [if_pos c54] at H
                             have c54b0 : decide ((ji43) < ((rd_L7 y267 (ji38)).length : Int)) = true := decide_eq_true c54
                             clear c54
                             replace H := Option.bind_eq_some_iff.mp H
                             obtain ⟨t278, A550, H⟩ := H
                             replace H : (diff_table.l1 k2 l0 l1 (y267.set (x6_1 : Int).toNat ((rd_L7 y267 x6_1).set (x7_2 : Int).toNat (mn (rd (rd_L7 y267 x6_1) x7_2) (wrap64 ((rd (rd_L7 y267 (ji38)) (ji43)) + t278))))) x6_1 (wrap64 (x7_2 - 1))) = some r := H
                             have A55 := Aside0.mk A550
                             clear A550
                             obtain ⟨ji56, hji56⟩ : ∃ j_ : Int, (mn (rd (rd_L7 y267 x6_1) x7_2) (wrap64 ((rd (rd_L7 y267 (ji38)) (ji43)) + t278))) = j_ := ⟨_, rfl⟩
                             replace H : (diff_table.l1 k2 l0 l1 (y267.set (x6_1 : Int).toNat ((rd_L7 y267 x6_1).set (x7_2 : Int).toNat (ji56))) x6_1 (wrap64 (x7_2 - 1))) = some r := by first | (rw [hji56] at H; exact H) | (simp only [hji56] at H ⊢; exact H)
                             (try rw [hji56] at A51)
                             (try rw [hji56] at A55)
                             have hji56_ : (if (wrap64 ((rd (rd_L7 y267 (ji38)) (ji43)) + t278)) < (rd (rd_L7 y267 x6_1) x7_2) then (wrap64 ((rd (rd_L7 y267 (ji38)) (ji43)) + t278)) else (rd (rd_L7 y267 x6_1) x7_2)) = ji56 := hji56
                             obtain ⟨y279, hy279⟩ : ∃ y_ : List Int, y_ = ((rd_L7 y267 x6_1).set (x7_2 : Int).toNat (ji56)) := ⟨_, rfl⟩
                             replace H : (diff_table.l1 k2 l0 l1 (y267.set (x6_1 : Int).toNat y279) x6_1 (wrap64 (x7_2 - 1))) = some r := by first | (rw [hy279]; with_reducible exact H) | (have H2_ := (Option.bind_some _ _).symm.trans H; rw [hy279]; with_reducible exact H2_) | (have H2_ := (Option.bind_some _ _).symm.trans H; with_reducible exact H2_) | with_reducible exact H | (rw [hy279]; exact H) | exact H
                             have Ny279 := Aside0.mk hy279
                             clear hy279
                             obtain ⟨y281, hy281⟩ : ∃ y_ : List (List Int), y_ = (y267.set (x6_1 : Int).toNat y279) := ⟨_, rfl⟩
                             replace H : (diff_table.l1 k2 l0 l1 y281 x6_1 (wrap64 (x7_2 - 1))) = some r := by first | (rw [hy281]; with_reducible exact H) | (have H2_ := (Option.bind_some _ _).symm.trans H; rw [hy281]; with_reducible exact H2_) | (have H2_ := (Option.bind_some _ _).symm.trans H; with_reducible exact H2_) | with_reducible exact H | (rw [hy281]; exact H) | exact H
                             have Ny281 := Aside0.mk hy281
                             clear hy281
                             have H' := Aside0.mk H
                             clear H
                             try go_wp2
                             have n0_ := Aside0.mk (Kd.S_drew HO_5.out)
                             have n1_ := Aside0.mk (below_drew1 HB.out)
                             clear HO_5
                             clear HB
                             have HO_5 := n0_
                             have HB := n1_
                             clear n0_ n1_
                             have p260 : 0 ≤ (x6_1 : Int) := of_decide_eq_true (by assumption)
                             have q260 : x6_1 < (x5_2.length : Int) := of_decide_eq_true (by assumption)
                             obtain ⟨ad260, A260_0, c260_0, e260, hx260_0, hl260_0, hi260_0⟩ := at_L7 (Kd.S_reads' HO_5.out).2.2 x6_1 p260 q260
                             obtain rfl : (⟨go14, 0, none⟩ : Addr) = ad260 := (by injection e260)
                             obtain ⟨ce260, hce260, hMe260, hcc260⟩ := Kd.S_get HO_5.out [] x6_1 p260 (by first | exact q260 | exact of_decide_eq_true (by assumption) | (have e_ := (Kd.S_reads' HO_5.out).1; omega))
                             obtain ⟨ve260_0, rfl, ge260_0⟩ := hMe260
                             have hv260_0 := hcc260 0 _ rfl
                             rw [Nat.add_zero, show ((Kd.slice 3 (Kd.int .i64))).sz = 1 from rfl, Nat.mul_one] at hv260_0
                             replace hv260_0 := Option.some.inj (hv260_0.symm.trans hx260_0)
                             rw [hv260_0] at ge260_0
                             have HL260_0 := Aside0.mk (show Kd.R (Kd.int .i64) 3 _ _ _ _ (rd_L7 x5_2 x6_1) from ge260_0)
                             clear hv260_0 ge260_0
                             have HX260_0 := Aside0.mk hx260_0
                             clear hcc260 hce260
                             (first | simp only [add_plain] at hx260_0 | simp only [add_at] at hx260_0 | simp only [Addr.add, Nat.zero_add] at hx260_0 | skip)
                             have HR260_0 := Aside0.mk hi260_0
                             have HC260_0 := Aside0.mk hl260_0
                             clear hi260_0 hl260_0
                             replace p260 := eq_true p260
                             replace q260 := eq_true q260
                             have p261 : 0 ≤ ((ji38) : Int) := of_decide_eq_true (by assumption)
                             have q261 : (ji38) < (x5_2.length : Int) := of_decide_eq_true (by assumption)
                             obtain ⟨ad261, A261_0, c261_0, e261, hx261_0, hl261_0, hi261_0⟩ := at_L7 (Kd.S_reads' HO_5.out).2.2 (ji38) p261 q261
                             obtain rfl : (⟨go14, 0, none⟩ : Addr) = ad261 := (by injection e261)
                             obtain ⟨ce261, hce261, hMe261, hcc261⟩ := Kd.S_get HO_5.out [] (ji38) p261 (by first | exact q261 | exact of_decide_eq_true (by assumption) | (have e_ := (Kd.S_reads' HO_5.out).1; omega))
                             obtain ⟨ve261_0, rfl, ge261_0⟩ := hMe261
                             have hv261_0 := hcc261 0 _ rfl
                             rw [Nat.add_zero, show ((Kd.slice 3 (Kd.int .i64))).sz = 1 from rfl, Nat.mul_one] at hv261_0
                             replace hv261_0 := Option.some.inj (hv261_0.symm.trans hx261_0)
                             rw [hv261_0] at ge261_0
                             have HL261_0 := Aside0.mk (show Kd.R (Kd.int .i64) 3 _ _ _ _ (rd_L7 x5_2 (ji38)) from ge261_0)
                             clear hv261_0 ge261_0
                             have HX261_0 := Aside0.mk hx261_0
                             clear hcc261 hce261
                             (first | simp only [add_plain] at hx261_0 | simp only [add_at] at hx261_0 | simp only [Addr.add, Nat.zero_add] at hx261_0 | skip)
                             have HR261_0 := Aside0.mk hi261_0
                             have HC261_0 := Aside0.mk hl261_0
                             clear hi261_0 hl261_0
                             replace p261 := eq_true p261
                             replace q261 := eq_true q261
                             have p262 : 0 ≤ (x7_2 : Int) := of_decide_eq_true (by assumption)
                             have q262 : x7_2 < ((rd_L7 x5_2 (ji38)).length : Int) := of_decide_eq_true (by assumption)
                             obtain ⟨ad262, e262, hx262_0⟩ := Kd.at_int (by repeat (first | (with_reducible exact HR261_0.out) | (with_reducible refine Kd.C_alloc ?_ _) | (with_reducible refine Kd.C_drewN ?_ _) | (with_reducible refine Kd.C_drew ?_) | exact HR261_0.out)) x7_2 p262 q262
                             cases e262
                             replace p262 := eq_true p262
                             replace q262 := eq_true q262
                             have p263 : 0 ≤ (x6_1 : Int) := of_decide_eq_true (by assumption)
                             have q263 : x6_1 < (x5_2.length : Int) := of_decide_eq_true (by assumption)
                             obtain ⟨ad263, A263_0, c263_0, e263, hx263_0, hl263_0, hi263_0⟩ := at_L7 (Kd.S_reads' HO_5.out).2.2 x6_1 p263 q263
                             obtain rfl : (⟨go14, 0, none⟩ : Addr) = ad263 := (by injection e263)
                             obtain ⟨ce263, hce263, hMe263, hcc263⟩ := Kd.S_get HO_5.out [] x6_1 p263 (by first | exact q263 | exact of_decide_eq_true (by assumption) | (have e_ := (Kd.S_reads' HO_5.out).1; omega))
                             obtain ⟨ve263_0, rfl, ge263_0⟩ := hMe263
                             have hv263_0 := hcc263 0 _ rfl
                             rw [Nat.add_zero, show ((Kd.slice 3 (Kd.int .i64))).sz = 1 from rfl, Nat.mul_one] at hv263_0
                             replace hv263_0 := Option.some.inj (hv263_0.symm.trans hx263_0)
                             rw [hv263_0] at ge263_0
                             have HL263_0 := Aside0.mk (show Kd.R (Kd.int .i64) 3 _ _ _ _ (rd_L7 x5_2 x6_1) from ge263_0)
                             clear hv263_0 ge263_0
                             have HX263_0 := Aside0.mk hx263_0
                             clear hcc263 hce263
                             (first | simp only [add_plain] at hx263_0 | simp only [add_at] at hx263_0 | simp only [Addr.add, Nat.zero_add] at hx263_0 | skip)
                             have HR263_0 := Aside0.mk hi263_0
                             have HC263_0 := Aside0.mk hl263_0
                             clear hi263_0 hl263_0
                             replace p263 := eq_true p263
                             replace q263 := eq_true q263
                             have ea_ := Option.some.inj (hx260_0.symm.trans hx263_0)
                             injection ea_ with ea_ en_ ec_
                             subst ea_
                             subst ec_
                             clear en_
                             have p264 : 0 ≤ ((ji43) : Int) := of_decide_eq_true (by assumption)
                             have q264 : (ji43) < ((rd_L7 x5_2 x6_1).length : Int) := of_decide_eq_true (by assumption)
                             obtain ⟨ad264, e264, hx264_0⟩ := Kd.at_int (by repeat (first | (with_reducible exact HR263_0.out) | (with_reducible refine Kd.C_alloc ?_ _) | (with_reducible refine Kd.C_drewN ?_ _) | (with_reducible refine Kd.C_drew ?_) | exact HR263_0.out)) (ji43) p264 q264
                             cases e264
                             replace p264 := eq_true p264
                             replace q264 := eq_true q264
                             have p48 : 0 ≤ (x7_2 : Int) := of_decide_eq_true (by assumption)
                             have q48 : (x7_2 : Int) < (((rd_L7 x5_2 x6_1).length : Int) : Int) := of_decide_eq_true (by assumption)
                             obtain ⟨go48, co48, eo48, gb48, gl48, cl48, HG48⟩ := Kd.R_form HL260_0.out (by omega)
                             (first | cases eo48 | (injection eo48 with ea_ en_ ec_; (first | subst ea_ | (injection ea_ with ea_; subst ea_)); subst ec_; clear en_))
                             have GB48 := Aside0.mk gb48
                             have GG48 := Aside0.mk HG48
                             clear gb48 gl48 HG48
                             (first | simp only [add_plain] at hx264_0 | skip)
                             obtain ⟨hx48_0, hf48_0⟩ := Kd.R_celln 0 HL260_0.out (x7_2 : Int) p48 q48
                             replace p48 := eq_true p48
                             replace q48 := eq_true q48
                             have hq59 : (x6_1 : Int) < (x5_2.length : Int) := (by have h_ : (x6_1 : Int) < ((x5_2.length : Int) : Int) := of_decide_eq_true (by assumption); first | exact h_ | (have e_ := (Kd.S_reads' HO_5.out).1; omega) | simpa only [List.length_set, List.length_set] using h_)
                             obtain ⟨oki59, ce59, hcl59, hM59, hcc59, hok59, hbk59⟩ := Kd.S_borrow HO_5.out [] (x6_1 : Int) (of_decide_eq_true (by assumption)) hq59
                             obtain ⟨ve59_0, rfl, ge59_0⟩ := hM59
                             have hv59 := hcc59 0 _ rfl
                             rw [Nat.add_zero, show ((Kd.slice 3 (Kd.int .i64))).sz = 1 from rfl, Nat.mul_one] at hv59
                             replace hv59 := Option.some.inj (hv59.symm.trans HX260_0.out)
                             subst hv59
                             clear hcc59 hcl59
                             replace ge59_0 := (show Kd.R (Kd.int .i64) 3 _ _ _ _ (rd_L7 x5_2 x6_1) from ge59_0)
                             have HP59 := Kd.R_putg ge59_0 (x7_2 : Int) (wrap64 (1 + (ji46)))
                             rw [← Ny265.out] at HP59
                             have HS59 := hbk59 HP59.2 (fun k_ e_ => by injection e_ with e_; subst e_; exact ge59_0.1 _ rfl) (x' := y265) (Kd.M_row HP59.1)
                             rw [← Ny267.out] at HS59
                             have HQ59 := Aside0.mk HS59
                             clear HP59 HS59 hbk59 hok59
                             refine start_ (n := 25) (S := fun w' => w'.cell? ⟨go14, (x6_1).toNat, none⟩ = some (.slice (some ⟨go48, 0, none⟩) (rd_L7 x5_2 x6_1).length c260_0) ∧ w'.cell? ⟨go14, ((ji38)).toNat, none⟩ = some (.slice (some ad262) (rd_L7 x5_2 (ji38)).length c261_0) ∧ w'.cell? (ad262.add (x7_2).toNat) = some (.int .i64 (rd (rd_L7 x5_2 (ji38)) x7_2)) ∧ w'.cell? ⟨go14, (x6_1).toNat, none⟩ = some (.slice (some ⟨go48, 0, none⟩) (rd_L7 x5_2 x6_1).length c260_0) ∧ w'.cell? ⟨go48, ((ji43)).toNat, none⟩ = some (.int .i64 (rd (rd_L7 x5_2 x6_1) (ji43)))) (ds := [24]) #[false, false, false, false, false, false, false, false, false, false, false, false, false, false, false, false, false, false, false, false, false, false, false, false, false] (by kernel_rfl) rfl rfl ⟨hx260_0, hx261_0, hx262_0, hx263_0, hx264_0⟩ (fun hHeld => ?_); refine with_tabW diff_table.tab9 diff_table.bits9 (fun HT_ HW_ => ?_)
                             generalize wr.drew = w58 at HO_5 HB GG48 HL260_0 HL261_0 HL263_0 HQ59 HR260_0 HR261_0 HR263_0 HX260_0 HX261_0 HX263_0 hf48_0 hx260_0 hx261_0 hx262_0 hx263_0 hx264_0 hx48_0 hHeld ⊢
                             refine pure_ (i := 0) (N := some 31) (v := ?_) (a' := ?_) (bm 1 25) rfl rfl (any_of HT_.out (by kernel_rfl)) (fun _ _ _ h => h) (Or.inl ⟨by rfl, ?_⟩) ?_ ?_
                             rotate_left
                             ·intro w'
                              go_simp
                              with_reducible rfl
                             rotate_left
                             ·simp only [Act.put, sA, sB, sC, i64_w, i32_w]
                              rfl
                             refine pure_ (i := 1) (N := some 32) (v := ?_) (a' := ?_) (bm 3 25) rfl rfl (any_of HT_.out (by kernel_rfl)) (fun _ _ _ h => h) (Or.inl ⟨by rfl, ?_⟩) ?_ ?_
                             rotate_left
                             ·intro w'
                              go_simp
                              with_reducible rfl
                             rotate_left
                             ·simp only [Act.put, sA, sB, sC, i64_w, i32_w]
                              rfl
                             refine pure_ (i := 2) (N := some 33) (v := ?_) (a' := ?_) (bm 7 25) rfl rfl (any_of HT_.out (by kernel_rfl)) (fun _ _ _ h => h) (Or.inl ⟨by rfl, ?_⟩) ?_ ?_
                             rotate_left
                             ·intro w'
                              go_simp
                              with_reducible rfl
                             rotate_left
                             ·simp only [Act.put, sA, sB, sC, i64_w, i32_w]
                              rfl
                             refine pure_ (i := 4) (N := some 35) (v := ?_) (a' := ?_) (bm 23 25) rfl rfl (any_of HT_.out (by kernel_rfl)) (fun _ _ _ h => h) (Or.inl ⟨by rfl, ?_⟩) ?_ ?_
                             rotate_left
                             ·intro w'
                              go_simp
                              with_reducible rfl
                             rotate_left
                             ·simp only [Act.put, sA, sB, sC, i64_w, i32_w]
                              rfl
                             refine pure_ (i := 5) (N := some 36) (v := ?_) (a' := ?_) (bm 55 25) rfl rfl (any_of HT_.out (by kernel_rfl)) (fun _ _ _ h => h) (Or.inl ⟨by rfl, ?_⟩) ?_ ?_
                             rotate_left
                             ·intro w'
                              go_simp
                              with_reducible rfl
                             rotate_left
                             ·simp only [Act.put, sA, sB, sC, i64_w, i32_w]
                              rfl
                             refine pure_ (i := 6) (N := some 37) (v := ?_) (a' := ?_) (bm 119 25) rfl rfl (any_of HT_.out (by kernel_rfl)) (fun _ _ _ h => h) (Or.inl ⟨by rfl, ?_⟩) ?_ ?_
                             rotate_left
                             ·intro w'
                              go_simp
                              with_reducible rfl
                             rotate_left
                             ·simp only [Act.put, sA, sB, sC, i64_w, i32_w]
                              rfl
                             refine pure_ (i := 7) (N := some 38) (v := ?_) (a' := ?_) (bm 247 25) rfl rfl (any_of HT_.out (by kernel_rfl)) (fun _ _ _ h => h) (Or.inl ⟨by rfl, ?_⟩) ?_ ?_
                             rotate_left
                             ·intro w'
                              go_simp
                              with_reducible rfl
                             rotate_left
                             ·simp only [Act.put, sA, sB, sC, i64_w, i32_w]
                              rfl
                             refine pure_ (i := 8) (N := some 39) (v := ?_) (a' := ?_) (bm 503 25) rfl rfl (any_of HT_.out (by kernel_rfl)) (fun _ _ _ h => h) (Or.inl ⟨by rfl, ?_⟩) ?_ ?_
                             rotate_left
                             ·intro w'
                              go_simp
                              with_reducible rfl
                             rotate_left
                             ·simp only [Act.put, sA, sB, sC, i64_w, i32_w]
                              rfl
                             refine pure_ (i := 10) (N := some 41) (v := ?_) (a' := ?_) (bm 1527 25) rfl rfl (any_of HT_.out (by kernel_rfl)) (fun _ _ _ h => h) (Or.inl ⟨by rfl, ?_⟩) ?_ ?_
                             rotate_left
                             ·intro w'
                              go_simp
                              with_reducible rfl
                             rotate_left
                             ·simp only [Act.put, sA, sB, sC, i64_w, i32_w]
                              rfl
                             refine pure_ (i := 13) (N := some 44) (v := ?_) (a' := ?_) (bm 9719 25) rfl rfl (any_of HT_.out (by kernel_rfl)) (fun _ _ _ h => h) (Or.inl ⟨by rfl, ?_⟩) ?_ ?_
                             rotate_left
                             ·intro w'
                              go_simp
                              with_reducible rfl
                             rotate_left
                             ·simp only [Act.put, sA, sB, sC, i64_w, i32_w]
                              rfl
                             refine pure_ (i := 14) (N := some 45) (v := ?_) (a' := ?_) (bm 26103 25) rfl rfl (any_of HT_.out (by kernel_rfl)) (fun _ _ _ h => h) (Or.inl ⟨by rfl, ?_⟩) ?_ ?_
                             rotate_left
                             ·intro w'
                              go_simp
                              with_reducible rfl
                             rotate_left
                             ·simp only [Act.put, sA, sB, sC, i64_w, i32_w]
                              rfl
                             refine pure_ (i := 15) (N := some 46) (v := ?_) (a' := ?_) (bm 58871 25) rfl rfl (any_of HT_.out (by kernel_rfl)) (fun _ _ _ h => h) (Or.inl ⟨by rfl, ?_⟩) ?_ ?_
                             rotate_left
                             ·intro w'
                              go_simp
                              with_reducible rfl
                             rotate_left
                             ·simp only [Act.put, sA, sB, sC, i64_w, i32_w]
                              rfl
                             refine pure_ (i := 17) (N := some 48) (v := ?_) (a' := ?_) (bm 189943 25) rfl rfl (any_of HT_.out (by kernel_rfl)) (fun _ _ _ h => h) (Or.inl ⟨by rfl, ?_⟩) ?_ ?_
                             rotate_left
                             ·intro w'
                              go_simp
                              with_reducible rfl
                             rotate_left
                             ·simp only [Act.put, sA, sB, sC, i64_w, i32_w]
                              rfl
                             refine pure_ (i := 18) (N := some 49) (v := ?_) (a' := ?_) (bm 452087 25) rfl rfl (any_of HT_.out (by kernel_rfl)) (fun _ _ _ h => h) (Or.inl ⟨by rfl, ?_⟩) ?_ ?_
                             rotate_left
                             ·intro w'
                              go_simp
                              with_reducible rfl
                             rotate_left
                             ·simp only [Act.put, sA, sB, sC, i64_w, i32_w]
                              rfl
                             refine take_ (i := 3) (N := some 34) (v := ?_) (a' := ?_) (bm 452095 25) rfl rfl (take_ofW HT_.out HW_.out (by kernel_rfl)) (fun _ _ _ h => h) (Or.inl ⟨by rfl, ?_⟩) hHeld ?_ ?_
                             rotate_left
                             ·rintro w' ⟨s0, s1, s2, s3, s4⟩
                              go_simp
                              with_reducible rfl
                             rotate_left
                             ·simp only [Act.put, sA, sB, sC, i64_w, i32_w]
                              rfl
                             refine take_ (i := 9) (N := some 40) (v := ?_) (a' := ?_) (bm 452607 25) rfl rfl (take_ofW HT_.out HW_.out (by kernel_rfl)) (fun _ _ _ h => h) (Or.inl ⟨by rfl, ?_⟩) hHeld ?_ ?_
                             rotate_left
                             ·rintro w' ⟨s0, s1, s2, s3, s4⟩
                              go_simp
                              with_reducible rfl
                             rotate_left
                             ·simp only [Act.put, sA, sB, sC, i64_w, i32_w]
                              rfl
                             refine pure_ (i := 11) (N := some 42) (v := ?_) (a' := ?_) (bm 454655 25) rfl rfl (any_of HT_.out (by kernel_rfl)) (fun _ _ _ h => h) (Or.inl ⟨by rfl, ?_⟩) ?_ ?_
                             rotate_left
                             ·intro w'
                              go_simp
                              with_reducible rfl
                             rotate_left
                             ·simp only [Act.put, sA, sB, sC, i64_w, i32_w]
                              rfl
                             refine take_ (i := 12) (N := some 43) (v := ?_) (a' := ?_) (bm 458751 25) rfl rfl (take_ofW HT_.out HW_.out (by kernel_rfl)) (fun _ _ _ h => h) (Or.inl ⟨by rfl, ?_⟩) hHeld ?_ ?_
                             rotate_left
                             ·rintro w' ⟨s0, s1, s2, s3, s4⟩
                              go_simp
                              with_reducible rfl
                             rotate_left
                             ·simp only [Act.put, sA, sB, sC, i64_w, i32_w]
                              rfl
                             refine take_ (i := 16) (N := some 47) (v := ?_) (a' := ?_) (bm 524287 25) rfl rfl (take_ofW HT_.out HW_.out (by kernel_rfl)) (fun _ _ _ h => h) (Or.inl ⟨by rfl, ?_⟩) hHeld ?_ ?_
                             rotate_left
                             ·rintro w' ⟨s0, s1, s2, s3, s4⟩
                              go_simp
                              with_reducible rfl
                             rotate_left
                             ·simp only [Act.put, sA, sB, sC, i64_w, i32_w]
                              rfl
                             refine pure_ (i := 19) (N := some 50) (v := ?_) (a' := ?_) (bm 1048575 25) rfl rfl (any_of HT_.out (by kernel_rfl)) (fun _ _ _ h => h) (Or.inl ⟨by rfl, ?_⟩) ?_ ?_
                             rotate_left
                             ·intro w'
                              go_simp
                              with_reducible rfl
                             rotate_left
                             ·simp only [Act.put, sA, sB, sC, i64_w, i32_w]
                              rfl
                             refine take_ (i := 20) (N := some 51) (v := ?_) (a' := ?_) (bm 2097151 25) rfl rfl (take_ofW HT_.out HW_.out (by kernel_rfl)) (fun _ _ _ h => h) (Or.inl ⟨by rfl, ?_⟩) hHeld ?_ ?_
                             rotate_left
                             ·rintro w' ⟨s0, s1, s2, s3, s4⟩
                              go_simp
                              with_reducible rfl
                             rotate_left
                             ·simp only [Act.put, sA, sB, sC, i64_w, i32_w]
                              rfl
                             refine pure_ (i := 21) (N := some 52) (v := ?_) (a' := ?_) (bm 4194303 25) rfl rfl (any_of HT_.out (by kernel_rfl)) (fun _ _ _ h => h) (Or.inl ⟨by rfl, ?_⟩) ?_ ?_
                             rotate_left
                             ·intro w'
                              go_simp
                              with_reducible rfl
                             rotate_left
                             ·simp only [Act.put, sA, sB, sC, i64_w, i32_w]
                              rfl
                             refine pure_ (i := 22) (N := some 53) (v := ?_) (a' := ?_) (bm 8388607 25) rfl rfl (any_of HT_.out (by kernel_rfl)) (fun _ _ _ h => h) (Or.inl ⟨by rfl, ?_⟩) ?_ ?_
                             rotate_left
                             ·intro w'
                              go_simp
                              with_reducible rfl
                             rotate_left
                             ·simp only [Act.put, sA, sB, sC, i64_w, i32_w]
                              rfl
                             refine pure_ (i := 23) (N := some 54) (v := ?_) (a' := ?_) (bm 16777215 25) rfl rfl (any_of HT_.out (by kernel_rfl)) (fun _ _ _ h => h) (Or.inl ⟨by rfl, ?_⟩) ?_ ?_
                             rotate_left
                             ·intro w'
                              go_simp
                              with_reducible rfl
                             rotate_left
                             ·simp only [Act.put, sA, sB, sC, i64_w, i32_w]
                              rfl
                             refine last_ (i := 24) (N := none) (bm 33554431 25) rfl rfl (one_of HT_.out (by kernel_rfl)) (by decide) (fun K hK => ?_)
                             refine skip_ (w1 := ?_) (by rfl) rfl ?_ ?_
                             rotate_left
                             ·go_simp
                              rfl
                             refine hK.out _ _ ?_
                             clear hK K
                             refine done_ (done_of HT_.out (by kernel_rfl)) ?_
                             try go_wp2
                             have n0_ : Aside0 (Kd.S (Kd.slice 3 (Kd.int .i64)) 43 (w58.setCell ⟨go48, (x7_2 : Int).toNat, none⟩ (.int .i64 (wrap64 (1 + (ji46))))) w.heap.size (fun _ => True) (.slice (some ⟨go14, 0, none⟩) x5_2.length co14) y267) := ⟨by (with_reducible repeat (first | apply Kd.S_alloc | apply Kd.S_drewN | apply Kd.S_drew)); exact HQ59.out⟩
                             have n1_ : Aside0 (Below w.heap.size w (w58.setCell ⟨go48, (x7_2 : Int).toNat, none⟩ (.int .i64 (wrap64 (1 + (ji46)))))) := ⟨by repeat (first | (with_reducible first | exact HB.out | apply below_alloc | apply pw_below_drewN | apply below_drew1 | refine below_set ?_ GB48.out) | exact HB.out)⟩
                             (try clear HO_5)
                             (try clear HB)
                             generalize (w58.setCell ⟨go48, (x7_2 : Int).toNat, none⟩ (.int .i64 (wrap64 (1 + (ji46))))) = w61 at n0_ n1_ ⊢
                             have HO_5 := n0_
                             have HB := n1_
                             clear n0_ n1_
                             have n0_ := Aside0.mk (Kd.S_drew HO_5.out)
                             have n1_ := Aside0.mk (below_drew1 HB.out)
                             clear HO_5
                             clear HB
                             have HO_5 := n0_
                             have HB := n1_
                             clear n0_ n1_
                             have p268 : 0 ≤ (x6_1 : Int) := of_decide_eq_true (by assumption)
                             have q268 : x6_1 < (l0.length : Int) := of_decide_eq_true (by assumption)
                             obtain ⟨ad268, A268_2, c268_2, e268, hx268_0, hx268_1, hx268_2, hl268_2, hi268_2⟩ := at_T84 HR0.out x6_1 p268 q268
                             have hw268_2 := hx268_2
                             have hw268_1 := hx268_1
                             have hw268_0 := hx268_0
                             cases e268
                             replace hx268_0 := (HB.out.cell (World.block_lt_of_cell? w _ hx268_0)).trans hx268_0
                             replace hx268_1 := (HB.out.cell (World.block_lt_of_cell? w _ hx268_1)).trans hx268_1
                             replace hx268_2 := (HB.out.cell (World.block_lt_of_cell? w _ hx268_2)).trans hx268_2
                             have HR268_2 := Aside0.mk hi268_2
                             have HC268_2 := Aside0.mk hl268_2
                             clear hi268_2 hl268_2
                             replace p268 := eq_true p268
                             replace q268 := eq_true q268
                             have p269 : 0 ≤ (x7_2 : Int) := of_decide_eq_true (by assumption)
                             have q269 : x7_2 < (l1.length : Int) := of_decide_eq_true (by assumption)
                             obtain ⟨ad269, A269_2, c269_2, e269, hx269_0, hx269_1, hx269_2, hl269_2, hi269_2⟩ := at_T84 HR1.out x7_2 p269 q269
                             have hw269_2 := hx269_2
                             have hw269_1 := hx269_1
                             have hw269_0 := hx269_0
                             cases e269
                             replace hx269_0 := (HB.out.cell (World.block_lt_of_cell? w _ hx269_0)).trans hx269_0
                             replace hx269_1 := (HB.out.cell (World.block_lt_of_cell? w _ hx269_1)).trans hx269_1
                             replace hx269_2 := (HB.out.cell (World.block_lt_of_cell? w _ hx269_2)).trans hx269_2
                             have HR269_2 := Aside0.mk hi269_2
                             have HC269_2 := Aside0.mk hl269_2
                             clear hi269_2 hl269_2
                             replace p269 := eq_true p269
                             replace q269 := eq_true q269
                             refine start_ (n := 9) (S := fun w' => w'.cell? (ad268.add ((x6_1).toNat * 3)) = some (.int .i64 ((rd_T84 l0 x6_1).f0)) ∧ w'.cell? ⟨(ad268.add ((x6_1).toNat * 3)).block, (ad268.add ((x6_1).toNat * 3)).off + 1, none⟩ = some (.int .i64 ((rd_T84 l0 x6_1).f1)) ∧ w'.cell? ⟨(ad268.add ((x6_1).toNat * 3)).block, (ad268.add ((x6_1).toNat * 3)).off + 2, none⟩ = some (.slice A268_2 ((rd_T84 l0 x6_1).f2).length c268_2) ∧ w'.cell? (ad269.add ((x7_2).toNat * 3)) = some (.int .i64 ((rd_T84 l1 x7_2).f0)) ∧ w'.cell? ⟨(ad269.add ((x7_2).toNat * 3)).block, (ad269.add ((x7_2).toNat * 3)).off + 1, none⟩ = some (.int .i64 ((rd_T84 l1 x7_2).f1)) ∧ w'.cell? ⟨(ad269.add ((x7_2).toNat * 3)).block, (ad269.add ((x7_2).toNat * 3)).off + 2, none⟩ = some (.slice A269_2 ((rd_T84 l1 x7_2).f2).length c269_2)) (ds := []) #[false, false, false, false, false, false, false, false, false] (by kernel_rfl) rfl rfl ⟨((HB.out.cell (World.block_lt_of_cell? w _ hw268_0)).trans hw268_0), ((HB.out.cell (World.block_lt_of_cell? w _ hw268_1)).trans hw268_1), ((HB.out.cell (World.block_lt_of_cell? w _ hw268_2)).trans hw268_2), ((HB.out.cell (World.block_lt_of_cell? w _ hw269_0)).trans hw269_0), ((HB.out.cell (World.block_lt_of_cell? w _ hw269_1)).trans hw269_1), ((HB.out.cell (World.block_lt_of_cell? w _ hw269_2)).trans hw269_2)⟩ (fun hHeld => ?_); refine with_tabW diff_table.tab10 diff_table.bits10 (fun HT_ HW_ => ?_)
                             generalize w61.drew = w62 at HO_5 HB HQ59 HR268_2 HR269_2 hx268_0 hx268_1 hx268_2 hx269_0 hx269_1 hx269_2 hHeld ⊢
                             refine pure_ (i := 0) (N := some 55) (v := ?_) (a' := ?_) (bm 1 9) rfl rfl (any_of HT_.out (by kernel_rfl)) (fun _ _ _ h => h) (Or.inl ⟨by rfl, ?_⟩) ?_ ?_
                             rotate_left
                             ·intro w'
                              go_simp
                              with_reducible rfl
                             rotate_left
                             ·simp only [Act.put, sA, sB, sC, i64_w, i32_w]
                              rfl
                             refine pure_ (i := 1) (N := some 56) (v := ?_) (a' := ?_) (bm 3 9) rfl rfl (any_of HT_.out (by kernel_rfl)) (fun _ _ _ h => h) (Or.inl ⟨by rfl, ?_⟩) ?_ ?_
                             rotate_left
                             ·intro w'
                              go_simp
                              with_reducible rfl
                             rotate_left
                             ·simp only [Act.put, sA, sB, sC, i64_w, i32_w]
                              rfl
                             refine pure_ (i := 2) (N := some 57) (v := ?_) (a' := ?_) (bm 7 9) rfl rfl (any_of HT_.out (by kernel_rfl)) (fun _ _ _ h => h) (Or.inl ⟨by rfl, ?_⟩) ?_ ?_
                             rotate_left
                             ·intro w'
                              go_simp
                              with_reducible rfl
                             rotate_left
                             ·simp only [Act.put, sA, sB, sC, i64_w, i32_w]
                              rfl
                             refine pure_ (i := 4) (N := some 59) (v := ?_) (a' := ?_) (bm 23 9) rfl rfl (any_of HT_.out (by kernel_rfl)) (fun _ _ _ h => h) (Or.inl ⟨by rfl, ?_⟩) ?_ ?_
                             rotate_left
                             ·intro w'
                              go_simp
                              with_reducible rfl
                             rotate_left
                             ·simp only [Act.put, sA, sB, sC, i64_w, i32_w]
                              rfl
                             refine pure_ (i := 5) (N := some 60) (v := ?_) (a' := ?_) (bm 55 9) rfl rfl (any_of HT_.out (by kernel_rfl)) (fun _ _ _ h => h) (Or.inl ⟨by rfl, ?_⟩) ?_ ?_
                             rotate_left
                             ·intro w'
                              go_simp
                              with_reducible rfl
                             rotate_left
                             ·simp only [Act.put, sA, sB, sC, i64_w, i32_w]
                              rfl
                             refine pure_ (i := 6) (N := some 61) (v := ?_) (a' := ?_) (bm 119 9) rfl rfl (any_of HT_.out (by kernel_rfl)) (fun _ _ _ h => h) (Or.inl ⟨by rfl, ?_⟩) ?_ ?_
                             rotate_left
                             ·intro w'
                              go_simp
                              with_reducible rfl
                             rotate_left
                             ·simp only [Act.put, sA, sB, sC, i64_w, i32_w]
                              rfl
                             refine take_ (i := 3) (N := some 58) (v := ?_) (a' := ?_) (bm 127 9) rfl rfl (take_ofW HT_.out HW_.out (by kernel_rfl)) (fun _ _ _ h => h) (Or.inl ⟨by rfl, ?_⟩) hHeld ?_ ?_
                             rotate_left
                             ·rintro w' ⟨s0, s1, s2, s3, s4, s5⟩
                              go_simp
                              with_reducible rfl
                             rotate_left
                             ·simp only [Act.put, sA, sB, sC, i64_w, i32_w]
                              rfl
                             refine take_ (i := 7) (N := some 62) (v := ?_) (a' := ?_) (bm 255 9) rfl rfl (take_ofW HT_.out HW_.out (by kernel_rfl)) (fun _ _ _ h => h) (Or.inl ⟨by rfl, ?_⟩) hHeld ?_ ?_
                             rotate_left
                             ·rintro w' ⟨s0, s1, s2, s3, s4, s5⟩
                              go_simp
                              with_reducible rfl
                             rotate_left
                             ·simp only [Act.put, sA, sB, sC, i64_w, i32_w]
                              rfl
                             refine one_ (i := 8) (N := some 63) (bm 511 9) rfl rfl (one_of HT_.out (by kernel_rfl)) (by decide) (fun K hK => ?_)
                             refine goes_ Try.func116 (by kernel_rfl) rfl #[.agg #[.int .i64 ((rd_T84 l0 x6_1).f0), .int .i64 ((rd_T84 l0 x6_1).f1), .slice A268_2 ((rd_T84 l0 x6_1).f2).length c268_2], .agg #[.int .i64 ((rd_T84 l1 x7_2).f0), .int .i64 ((rd_T84 l1 x7_2).f1), .slice A269_2 ((rd_T84 l1 x7_2).f2).length c269_2]] (by rfl) rfl rfl (by (try simp only [List.map_toArray, List.map_cons, List.map_nil]); first | done | rfl | (simp only [List.length_drop, List.length_take]; rfl)) ?_
                             with_reducible refine (diff_alike.calls ((rd_T84 l0 x6_1).f0) ((rd_T84 l0 x6_1).f1) _ _ ((rd_T84 l0 x6_1).f2) ((rd_T84 l1 x7_2).f0) ((rd_T84 l1 x7_2).f1) _ _ ((rd_T84 l1 x7_2).f2) true _ ?side1 ?side2 ?side3 ?side4 A51.out).mono ?_
                             (case side1 => repeat (first | exact (Kd.C_below HR268_2.out HB.out) | (with_reducible refine Kd.C_alloc ?_ _) | (with_reducible refine Kd.C_drewN ?_ _) | (with_reducible refine Kd.C_drew ?_)))
                             (case side2 => exact HC268_2.out)
                             (case side3 => repeat (first | exact (Kd.C_below HR269_2.out HB.out) | (with_reducible refine Kd.C_alloc ?_ _) | (with_reducible refine Kd.C_drewN ?_ _) | (with_reducible refine Kd.C_drew ?_)))
                             (case side4 => exact HC269_2.out)
                             rintro e w63 ⟨rfl, hb⟩
                             refine ⟨_, rfl, ?_⟩
                             have n0_ := Aside0.mk (Kd.S_below (by (with_reducible repeat (first | apply Kd.S_alloc | apply Kd.S_drewN | apply Kd.S_drew)); exact HO_5.out) hb)
                             have n1_ := Aside0.mk (below_step (by with_reducible repeat first | exact HB.out | apply below_alloc | apply pw_below_drewN | apply below_drew1) hb)
                             clear HO_5
                             clear HB
                             have HO_5 := n0_
                             have HB := n1_
                             clear n0_ n1_
                             (try clear hb)
                             (try clear hb2)
                             (try clear hk)
                             (try clear hi)
                             refine hK.out _ _ ⟨((HB.out.cell (World.block_lt_of_cell? w _ hw268_0)).trans hw268_0), ((HB.out.cell (World.block_lt_of_cell? w _ hw268_1)).trans hw268_1), ((HB.out.cell (World.block_lt_of_cell? w _ hw268_2)).trans hw268_2), ((HB.out.cell (World.block_lt_of_cell? w _ hw269_0)).trans hw269_0), ((HB.out.cell (World.block_lt_of_cell? w _ hw269_1)).trans hw269_1), ((HB.out.cell (World.block_lt_of_cell? w _ hw269_2)).trans hw269_2)⟩ (fun hHeld => ?_)
                             clear hK K
                             refine norm_ (a' := ?_) ?_ ?_
                             rotate_left
                             ·show Act.put _ (some 63) _ = _
                              simp only [Act.put, sA, sB, sC, i64_w, i32_w]
                              rfl
                             refine done_ (done_of HT_.out (by kernel_rfl)) ?_
                             try go_wp2
                             have n0_ := Aside0.mk (Kd.S_drew HO_5.out)
                             have n1_ := Aside0.mk (below_drew1 HB.out)
                             clear HO_5
                             clear HB
                             have HO_5 := n0_
                             have HB := n1_
                             clear n0_ n1_
                             have p271 : 0 ≤ (x6_1 : Int) := of_decide_eq_true (by assumption)
                             have q271 : x6_1 < (y267.length : Int) := (by have h_ : (x6_1 : Int) < ((x5_2.length : Int) : Int) := of_decide_eq_true (by assumption); first | (have e_ := (Kd.S_reads' HO_5.out).1; omega) | simpa only [Ny267.out, List.length_set] using h_)
                             have ql271 : ((x6_1 : Int) < ((x5_2.length : Int) : Int)) = True := eq_true (of_decide_eq_true (by assumption))
                             obtain ⟨ad271, A271_0, c271_0, e271, hx271_0, hl271_0, hi271_0⟩ := at_L7 (Kd.S_reads' HO_5.out).2.2 x6_1 p271 q271
                             obtain rfl : (⟨go14, 0, none⟩ : Addr) = ad271 := (by injection e271)
                             obtain ⟨ce271, hce271, hMe271, hcc271⟩ := Kd.S_get HO_5.out [] x6_1 p271 (by first | exact q271 | exact of_decide_eq_true (by assumption) | (have e_ := (Kd.S_reads' HO_5.out).1; omega))
                             obtain ⟨ve271_0, rfl, ge271_0⟩ := hMe271
                             have hv271_0 := hcc271 0 _ rfl
                             rw [Nat.add_zero, show ((Kd.slice 3 (Kd.int .i64))).sz = 1 from rfl, Nat.mul_one] at hv271_0
                             replace hv271_0 := Option.some.inj (hv271_0.symm.trans hx271_0)
                             rw [hv271_0] at ge271_0
                             have HL271_0 := Aside0.mk (show Kd.R (Kd.int .i64) 3 _ _ _ _ (rd_L7 y267 x6_1) from ge271_0)
                             clear hv271_0 ge271_0
                             have HX271_0 := Aside0.mk hx271_0
                             clear hcc271 hce271
                             (first | simp only [add_plain] at hx271_0 | simp only [add_at] at hx271_0 | simp only [Addr.add, Nat.zero_add] at hx271_0 | skip)
                             have HR271_0 := Aside0.mk hi271_0
                             have HC271_0 := Aside0.mk hl271_0
                             clear hi271_0 hl271_0
                             replace p271 := eq_true p271
                             replace q271 := eq_true q271
                             have p272 : 0 ≤ (x6_1 : Int) := of_decide_eq_true (by assumption)
                             have q272 : x6_1 < (y267.length : Int) := (by have h_ : (x6_1 : Int) < ((x5_2.length : Int) : Int) := of_decide_eq_true (by assumption); first | (have e_ := (Kd.S_reads' HO_5.out).1; omega) | simpa only [Ny267.out, List.length_set] using h_)
                             have ql272 : ((x6_1 : Int) < ((x5_2.length : Int) : Int)) = True := eq_true (of_decide_eq_true (by assumption))
                             obtain ⟨ad272, A272_0, c272_0, e272, hx272_0, hl272_0, hi272_0⟩ := at_L7 (Kd.S_reads' HO_5.out).2.2 x6_1 p272 q272
                             obtain rfl : (⟨go14, 0, none⟩ : Addr) = ad272 := (by injection e272)
                             obtain ⟨ce272, hce272, hMe272, hcc272⟩ := Kd.S_get HO_5.out [] x6_1 p272 (by first | exact q272 | exact of_decide_eq_true (by assumption) | (have e_ := (Kd.S_reads' HO_5.out).1; omega))
                             obtain ⟨ve272_0, rfl, ge272_0⟩ := hMe272
                             have hv272_0 := hcc272 0 _ rfl
                             rw [Nat.add_zero, show ((Kd.slice 3 (Kd.int .i64))).sz = 1 from rfl, Nat.mul_one] at hv272_0
                             replace hv272_0 := Option.some.inj (hv272_0.symm.trans hx272_0)
                             rw [hv272_0] at ge272_0
                             have HL272_0 := Aside0.mk (show Kd.R (Kd.int .i64) 3 _ _ _ _ (rd_L7 y267 x6_1) from ge272_0)
                             clear hv272_0 ge272_0
                             have HX272_0 := Aside0.mk hx272_0
                             clear hcc272 hce272
                             (first | simp only [add_plain] at hx272_0 | simp only [add_at] at hx272_0 | simp only [Addr.add, Nat.zero_add] at hx272_0 | skip)
                             have HR272_0 := Aside0.mk hi272_0
                             have HC272_0 := Aside0.mk hl272_0
                             clear hi272_0 hl272_0
                             replace p272 := eq_true p272
                             replace q272 := eq_true q272
                             have ea_ := Option.some.inj (hx271_0.symm.trans hx272_0)
                             injection ea_ with ea_ en_ ec_
                             subst ea_
                             subst ec_
                             clear en_
                             have p273 : 0 ≤ (x7_2 : Int) := of_decide_eq_true (by assumption)
                             have q273 : x7_2 < ((rd_L7 y267 x6_1).length : Int) := of_decide_eq_true (by assumption)
                             obtain ⟨ad273, e273, hx273_0⟩ := Kd.at_int (by repeat (first | (with_reducible exact HR272_0.out) | (with_reducible refine Kd.C_alloc ?_ _) | (with_reducible refine Kd.C_drewN ?_ _) | (with_reducible refine Kd.C_drew ?_) | exact HR272_0.out)) x7_2 p273 q273
                             cases e273
                             replace p273 := eq_true p273
                             replace q273 := eq_true q273
                             have p274 : 0 ≤ ((ji38) : Int) := of_decide_eq_true (by assumption)
                             have q274 : (ji38) < (y267.length : Int) := (by have h_ : ((ji38) : Int) < ((x5_2.length : Int) : Int) := of_decide_eq_true (by assumption); first | (have e_ := (Kd.S_reads' HO_5.out).1; omega) | simpa only [Ny267.out, List.length_set] using h_)
                             have ql274 : (((ji38) : Int) < ((x5_2.length : Int) : Int)) = True := eq_true (of_decide_eq_true (by assumption))
                             obtain ⟨ad274, A274_0, c274_0, e274, hx274_0, hl274_0, hi274_0⟩ := at_L7 (Kd.S_reads' HO_5.out).2.2 (ji38) p274 q274
                             obtain rfl : (⟨go14, 0, none⟩ : Addr) = ad274 := (by injection e274)
                             obtain ⟨ce274, hce274, hMe274, hcc274⟩ := Kd.S_get HO_5.out [] (ji38) p274 (by first | exact q274 | exact of_decide_eq_true (by assumption) | (have e_ := (Kd.S_reads' HO_5.out).1; omega))
                             obtain ⟨ve274_0, rfl, ge274_0⟩ := hMe274
                             have hv274_0 := hcc274 0 _ rfl
                             rw [Nat.add_zero, show ((Kd.slice 3 (Kd.int .i64))).sz = 1 from rfl, Nat.mul_one] at hv274_0
                             replace hv274_0 := Option.some.inj (hv274_0.symm.trans hx274_0)
                             rw [hv274_0] at ge274_0
                             have HL274_0 := Aside0.mk (show Kd.R (Kd.int .i64) 3 _ _ _ _ (rd_L7 y267 (ji38)) from ge274_0)
                             clear hv274_0 ge274_0
                             have HX274_0 := Aside0.mk hx274_0
                             clear hcc274 hce274
                             (first | simp only [add_plain] at hx274_0 | simp only [add_at] at hx274_0 | simp only [Addr.add, Nat.zero_add] at hx274_0 | skip)
                             have HR274_0 := Aside0.mk hi274_0
                             have HC274_0 := Aside0.mk hl274_0
                             clear hi274_0 hl274_0
                             replace p274 := eq_true p274
                             replace q274 := eq_true q274
                             have p275 : 0 ≤ ((ji43) : Int) := of_decide_eq_true (by assumption)
                             have q275 : (ji43) < ((rd_L7 y267 (ji38)).length : Int) := of_decide_eq_true (by assumption)
                             obtain ⟨ad275, e275, hx275_0⟩ := Kd.at_int (by repeat (first | (with_reducible exact HR274_0.out) | (with_reducible refine Kd.C_alloc ?_ _) | (with_reducible refine Kd.C_drewN ?_ _) | (with_reducible refine Kd.C_drew ?_) | exact HR274_0.out)) (ji43) p275 q275
                             cases e275
                             replace p275 := eq_true p275
                             replace q275 := eq_true q275
                             have p276 : 0 ≤ (x6_1 : Int) := of_decide_eq_true (by assumption)
                             have q276 : x6_1 < (l0.length : Int) := of_decide_eq_true (by assumption)
                             obtain ⟨ad276, A276_2, c276_2, e276, hx276_0, hx276_1, hx276_2, hl276_2, hi276_2⟩ := at_T84 HR0.out x6_1 p276 q276
                             have hw276_2 := hx276_2
                             have hw276_1 := hx276_1
                             have hw276_0 := hx276_0
                             obtain rfl : ad268 = ad276 := (by injection e276)
                             replace hx276_0 := (HB.out.cell (World.block_lt_of_cell? w _ hx276_0)).trans hx276_0
                             replace hx276_1 := (HB.out.cell (World.block_lt_of_cell? w _ hx276_1)).trans hx276_1
                             replace hx276_2 := (HB.out.cell (World.block_lt_of_cell? w _ hx276_2)).trans hx276_2
                             have HR276_2 := Aside0.mk hi276_2
                             have HC276_2 := Aside0.mk hl276_2
                             clear hi276_2 hl276_2
                             replace p276 := eq_true p276
                             replace q276 := eq_true q276
                             have p277 : 0 ≤ (x7_2 : Int) := of_decide_eq_true (by assumption)
                             have q277 : x7_2 < (l1.length : Int) := of_decide_eq_true (by assumption)
                             obtain ⟨ad277, A277_2, c277_2, e277, hx277_0, hx277_1, hx277_2, hl277_2, hi277_2⟩ := at_T84 HR1.out x7_2 p277 q277
                             have hw277_2 := hx277_2
                             have hw277_1 := hx277_1
                             have hw277_0 := hx277_0
                             obtain rfl : ad269 = ad277 := (by injection e277)
                             replace hx277_0 := (HB.out.cell (World.block_lt_of_cell? w _ hx277_0)).trans hx277_0
                             replace hx277_1 := (HB.out.cell (World.block_lt_of_cell? w _ hx277_1)).trans hx277_1
                             replace hx277_2 := (HB.out.cell (World.block_lt_of_cell? w _ hx277_2)).trans hx277_2
                             have HR277_2 := Aside0.mk hi277_2
                             have HC277_2 := Aside0.mk hl277_2
                             clear hi277_2 hl277_2
                             replace p277 := eq_true p277
                             replace q277 := eq_true q277
                             refine start_ (n := 34) (S := fun w' => w'.cell? ⟨go14, (x6_1).toNat, none⟩ = some (.slice (some ad273) (rd_L7 y267 x6_1).length c271_0) ∧ w'.cell? ⟨go14, (x6_1).toNat, none⟩ = some (.slice (some ad273) (rd_L7 y267 x6_1).length c271_0) ∧ w'.cell? (ad273.add (x7_2).toNat) = some (.int .i64 (rd (rd_L7 y267 x6_1) x7_2)) ∧ w'.cell? ⟨go14, ((ji38)).toNat, none⟩ = some (.slice (some ad275) (rd_L7 y267 (ji38)).length c274_0) ∧ w'.cell? (ad275.add ((ji43)).toNat) = some (.int .i64 (rd (rd_L7 y267 (ji38)) (ji43))) ∧ w'.cell? (ad268.add ((x6_1).toNat * 3)) = some (.int .i64 ((rd_T84 l0 x6_1).f0)) ∧ w'.cell? ⟨(ad268.add ((x6_1).toNat * 3)).block, (ad268.add ((x6_1).toNat * 3)).off + 1, none⟩ = some (.int .i64 ((rd_T84 l0 x6_1).f1)) ∧ w'.cell? ⟨(ad268.add ((x6_1).toNat * 3)).block, (ad268.add ((x6_1).toNat * 3)).off + 2, none⟩ = some (.slice A276_2 ((rd_T84 l0 x6_1).f2).length c276_2) ∧ w'.cell? (ad269.add ((x7_2).toNat * 3)) = some (.int .i64 ((rd_T84 l1 x7_2).f0)) ∧ w'.cell? ⟨(ad269.add ((x7_2).toNat * 3)).block, (ad269.add ((x7_2).toNat * 3)).off + 1, none⟩ = some (.int .i64 ((rd_T84 l1 x7_2).f1)) ∧ w'.cell? ⟨(ad269.add ((x7_2).toNat * 3)).block, (ad269.add ((x7_2).toNat * 3)).off + 2, none⟩ = some (.slice A277_2 ((rd_T84 l1 x7_2).f2).length c277_2)) (ds := [33]) #[false, false, false, false, false, false, false, false, false, false, false, false, false, false, false, false, false, false, false, false, false, false, false, false, false, false, false, false, false, false, false, false, false, false] (by kernel_rfl) rfl rfl ⟨hx271_0, hx272_0, hx273_0, hx274_0, hx275_0, ((HB.out.cell (World.block_lt_of_cell? w _ hw276_0)).trans hw276_0), ((HB.out.cell (World.block_lt_of_cell? w _ hw276_1)).trans hw276_1), ((HB.out.cell (World.block_lt_of_cell? w _ hw276_2)).trans hw276_2), ((HB.out.cell (World.block_lt_of_cell? w _ hw277_0)).trans hw277_0), ((HB.out.cell (World.block_lt_of_cell? w _ hw277_1)).trans hw277_1), ((HB.out.cell (World.block_lt_of_cell? w _ hw277_2)).trans hw277_2)⟩ (fun hHeld => ?_); refine with_tabW diff_table.tab11 diff_table.bits11 (fun HT_ HW_ => ?_)
                             generalize w63.drew = w64 at HO_5 HB HL271_0 HL272_0 HL274_0 HR271_0 HR272_0 HR274_0 HR276_2 HR277_2 HX271_0 HX272_0 HX274_0 hx271_0 hx272_0 hx273_0 hx274_0 hx275_0 hx276_0 hx276_1 hx276_2 hx277_0 hx277_1 hx277_2 hHeld ⊢
                             refine pure_ (i := 0) (N := some 64) (v := ?_) (a' := ?_) (bm 1 34) rfl rfl (any_of HT_.out (by kernel_rfl)) (fun _ _ _ h => h) (Or.inl ⟨by rfl, ?_⟩) ?_ ?_
                             rotate_left
                             ·intro w'
                              go_simp
                              with_reducible rfl
                             rotate_left
                             ·simp only [Act.put, sA, sB, sC, i64_w, i32_w]
                              rfl
                             refine pure_ (i := 1) (N := some 65) (v := ?_) (a' := ?_) (bm 3 34) rfl rfl (any_of HT_.out (by kernel_rfl)) (fun _ _ _ h => h) (Or.inl ⟨by rfl, ?_⟩) ?_ ?_
                             rotate_left
                             ·intro w'
                              go_simp
                              with_reducible rfl
                             rotate_left
                             ·simp only [Act.put, sA, sB, sC, i64_w, i32_w]
                              rfl
                             refine pure_ (i := 2) (N := some 66) (v := ?_) (a' := ?_) (bm 7 34) rfl rfl (any_of HT_.out (by kernel_rfl)) (fun _ _ _ h => h) (Or.inl ⟨by rfl, ?_⟩) ?_ ?_
                             rotate_left
                             ·intro w'
                              go_simp
                              with_reducible rfl
                             rotate_left
                             ·simp only [Act.put, sA, sB, sC, i64_w, i32_w]
                              rfl
                             refine pure_ (i := 4) (N := some 68) (v := ?_) (a' := ?_) (bm 23 34) rfl rfl (any_of HT_.out (by kernel_rfl)) (fun _ _ _ h => h) (Or.inl ⟨by rfl, ?_⟩) ?_ ?_
                             rotate_left
                             ·intro w'
                              go_simp
                              with_reducible rfl
                             rotate_left
                             ·simp only [Act.put, sA, sB, sC, i64_w, i32_w]
                              rfl
                             refine pure_ (i := 5) (N := some 69) (v := ?_) (a' := ?_) (bm 55 34) rfl rfl (any_of HT_.out (by kernel_rfl)) (fun _ _ _ h => h) (Or.inl ⟨by rfl, ?_⟩) ?_ ?_
                             rotate_left
                             ·intro w'
                              go_simp
                              with_reducible rfl
                             rotate_left
                             ·simp only [Act.put, sA, sB, sC, i64_w, i32_w]
                              rfl
                             refine pure_ (i := 6) (N := some 70) (v := ?_) (a' := ?_) (bm 119 34) rfl rfl (any_of HT_.out (by kernel_rfl)) (fun _ _ _ h => h) (Or.inl ⟨by rfl, ?_⟩) ?_ ?_
                             rotate_left
                             ·intro w'
                              go_simp
                              with_reducible rfl
                             rotate_left
                             ·simp only [Act.put, sA, sB, sC, i64_w, i32_w]
                              rfl
                             refine pure_ (i := 7) (N := some 71) (v := ?_) (a' := ?_) (bm 247 34) rfl rfl (any_of HT_.out (by kernel_rfl)) (fun _ _ _ h => h) (Or.inl ⟨by rfl, ?_⟩) ?_ ?_
                             rotate_left
                             ·intro w'
                              go_simp
                              with_reducible rfl
                             rotate_left
                             ·simp only [Act.put, sA, sB, sC, i64_w, i32_w]
                              rfl
                             refine pure_ (i := 9) (N := some 73) (v := ?_) (a' := ?_) (bm 759 34) rfl rfl (any_of HT_.out (by kernel_rfl)) (fun _ _ _ h => h) (Or.inl ⟨by rfl, ?_⟩) ?_ ?_
                             rotate_left
                             ·intro w'
                              go_simp
                              with_reducible rfl
                             rotate_left
                             ·simp only [Act.put, sA, sB, sC, i64_w, i32_w]
                              rfl
                             refine pure_ (i := 12) (N := some 76) (v := ?_) (a' := ?_) (bm 4855 34) rfl rfl (any_of HT_.out (by kernel_rfl)) (fun _ _ _ h => h) (Or.inl ⟨by rfl, ?_⟩) ?_ ?_
                             rotate_left
                             ·intro w'
                              go_simp
                              with_reducible rfl
                             rotate_left
                             ·simp only [Act.put, sA, sB, sC, i64_w, i32_w]
                              rfl
                             refine pure_ (i := 13) (N := some 77) (v := ?_) (a' := ?_) (bm 13047 34) rfl rfl (any_of HT_.out (by kernel_rfl)) (fun _ _ _ h => h) (Or.inl ⟨by rfl, ?_⟩) ?_ ?_
                             rotate_left
                             ·intro w'
                              go_simp
                              with_reducible rfl
                             rotate_left
                             ·simp only [Act.put, sA, sB, sC, i64_w, i32_w]
                              rfl
                             refine pure_ (i := 14) (N := some 78) (v := ?_) (a' := ?_) (bm 29431 34) rfl rfl (any_of HT_.out (by kernel_rfl)) (fun _ _ _ h => h) (Or.inl ⟨by rfl, ?_⟩) ?_ ?_
                             rotate_left
                             ·intro w'
                              go_simp
                              with_reducible rfl
                             rotate_left
                             ·simp only [Act.put, sA, sB, sC, i64_w, i32_w]
                              rfl
                             refine pure_ (i := 15) (N := some 79) (v := ?_) (a' := ?_) (bm 62199 34) rfl rfl (any_of HT_.out (by kernel_rfl)) (fun _ _ _ h => h) (Or.inl ⟨by rfl, ?_⟩) ?_ ?_
                             rotate_left
                             ·intro w'
                              go_simp
                              with_reducible rfl
                             rotate_left
                             ·simp only [Act.put, sA, sB, sC, i64_w, i32_w]
                              rfl
                             refine pure_ (i := 17) (N := some 81) (v := ?_) (a' := ?_) (bm 193271 34) rfl rfl (any_of HT_.out (by kernel_rfl)) (fun _ _ _ h => h) (Or.inl ⟨by rfl, ?_⟩) ?_ ?_
                             rotate_left
                             ·intro w'
                              go_simp
                              with_reducible rfl
                             rotate_left
                             ·simp only [Act.put, sA, sB, sC, i64_w, i32_w]
                              rfl
                             refine pure_ (i := 18) (N := some 82) (v := ?_) (a' := ?_) (bm 455415 34) rfl rfl (any_of HT_.out (by kernel_rfl)) (fun _ _ _ h => h) (Or.inl ⟨by rfl, ?_⟩) ?_ ?_
                             rotate_left
                             ·intro w'
                              go_simp
                              with_reducible rfl
                             rotate_left
                             ·simp only [Act.put, sA, sB, sC, i64_w, i32_w]
                              rfl
                             refine pure_ (i := 21) (N := some 85) (v := ?_) (a' := ?_) (bm 2552567 34) rfl rfl (any_of HT_.out (by kernel_rfl)) (fun _ _ _ h => h) (Or.inl ⟨by rfl, ?_⟩) ?_ ?_
                             rotate_left
                             ·intro w'
                              go_simp
                              with_reducible rfl
                             rotate_left
                             ·simp only [Act.put, sA, sB, sC, i64_w, i32_w]
                              rfl
                             refine pure_ (i := 22) (N := some 86) (v := ?_) (a' := ?_) (bm 6746871 34) rfl rfl (any_of HT_.out (by kernel_rfl)) (fun _ _ _ h => h) (Or.inl ⟨by rfl, ?_⟩) ?_ ?_
                             rotate_left
                             ·intro w'
                              go_simp
                              with_reducible rfl
                             rotate_left
                             ·simp only [Act.put, sA, sB, sC, i64_w, i32_w]
                              rfl
                             refine pure_ (i := 23) (N := some 87) (v := ?_) (a' := ?_) (bm 15135479 34) rfl rfl (any_of HT_.out (by kernel_rfl)) (fun _ _ _ h => h) (Or.inl ⟨by rfl, ?_⟩) ?_ ?_
                             rotate_left
                             ·intro w'
                              go_simp
                              with_reducible rfl
                             rotate_left
                             ·simp only [Act.put, sA, sB, sC, i64_w, i32_w]
                              rfl
                             refine pure_ (i := 25) (N := some 89) (v := ?_) (a' := ?_) (bm 48689911 34) rfl rfl (any_of HT_.out (by kernel_rfl)) (fun _ _ _ h => h) (Or.inl ⟨by rfl, ?_⟩) ?_ ?_
                             rotate_left
                             ·intro w'
                              go_simp
                              with_reducible rfl
                             rotate_left
                             ·simp only [Act.put, sA, sB, sC, i64_w, i32_w]
                              rfl
                             refine pure_ (i := 26) (N := some 90) (v := ?_) (a' := ?_) (bm 115798775 34) rfl rfl (any_of HT_.out (by kernel_rfl)) (fun _ _ _ h => h) (Or.inl ⟨by rfl, ?_⟩) ?_ ?_
                             rotate_left
                             ·intro w'
                              go_simp
                              with_reducible rfl
                             rotate_left
                             ·simp only [Act.put, sA, sB, sC, i64_w, i32_w]
                              rfl
                             refine pure_ (i := 27) (N := some 91) (v := ?_) (a' := ?_) (bm 250016503 34) rfl rfl (any_of HT_.out (by kernel_rfl)) (fun _ _ _ h => h) (Or.inl ⟨by rfl, ?_⟩) ?_ ?_
                             rotate_left
                             ·intro w'
                              go_simp
                              with_reducible rfl
                             rotate_left
                             ·simp only [Act.put, sA, sB, sC, i64_w, i32_w]
                              rfl
                             refine take_ (i := 3) (N := some 67) (v := ?_) (a' := ?_) (bm 250016511 34) rfl rfl (take_ofW HT_.out HW_.out (by kernel_rfl)) (fun _ _ _ h => h) (Or.inl ⟨by rfl, ?_⟩) hHeld ?_ ?_
                             rotate_left
                             ·rintro w' ⟨s0, s1, s2, s3, s4, s5, s6, s7, s8, s9, s10⟩
                              go_simp
                              with_reducible rfl
                             rotate_left
                             ·simp only [Act.put, sA, sB, sC, i64_w, i32_w]
                              rfl
                             refine take_ (i := 8) (N := some 72) (v := ?_) (a' := ?_) (bm 250016767 34) rfl rfl (take_ofW HT_.out HW_.out (by kernel_rfl)) (fun _ _ _ h => h) (Or.inl ⟨by rfl, ?_⟩) hHeld ?_ ?_
                             rotate_left
                             ·rintro w' ⟨s0, s1, s2, s3, s4, s5, s6, s7, s8, s9, s10⟩
                              go_simp
                              with_reducible rfl
                             rotate_left
                             ·simp only [Act.put, sA, sB, sC, i64_w, i32_w]
                              rfl
                             refine pure_ (i := 10) (N := some 74) (v := ?_) (a' := ?_) (bm 250017791 34) rfl rfl (any_of HT_.out (by kernel_rfl)) (fun _ _ _ h => h) (Or.inl ⟨by rfl, ?_⟩) ?_ ?_
                             rotate_left
                             ·intro w'
                              go_simp
                              with_reducible rfl
                             rotate_left
                             ·simp only [Act.put, sA, sB, sC, i64_w, i32_w]
                              rfl
                             refine take_ (i := 11) (N := some 75) (v := ?_) (a' := ?_) (bm 250019839 34) rfl rfl (take_ofW HT_.out HW_.out (by kernel_rfl)) (fun _ _ _ h => h) (Or.inl ⟨by rfl, ?_⟩) hHeld ?_ ?_
                             rotate_left
                             ·rintro w' ⟨s0, s1, s2, s3, s4, s5, s6, s7, s8, s9, s10⟩
                              go_simp
                              with_reducible rfl
                             rotate_left
                             ·simp only [Act.put, sA, sB, sC, i64_w, i32_w]
                              rfl
                             refine take_ (i := 16) (N := some 80) (v := ?_) (a' := ?_) (bm 250085375 34) rfl rfl (take_ofW HT_.out HW_.out (by kernel_rfl)) (fun _ _ _ h => h) (Or.inl ⟨by rfl, ?_⟩) hHeld ?_ ?_
                             rotate_left
                             ·rintro w' ⟨s0, s1, s2, s3, s4, s5, s6, s7, s8, s9, s10⟩
                              go_simp
                              with_reducible rfl
                             rotate_left
                             ·simp only [Act.put, sA, sB, sC, i64_w, i32_w]
                              rfl
                             refine pure_ (i := 19) (N := some 83) (v := ?_) (a' := ?_) (bm 250609663 34) rfl rfl (any_of HT_.out (by kernel_rfl)) (fun _ _ _ h => h) (Or.inl ⟨by rfl, ?_⟩) ?_ ?_
                             rotate_left
                             ·intro w'
                              go_simp
                              with_reducible rfl
                             rotate_left
                             ·simp only [Act.put, sA, sB, sC, i64_w, i32_w]
                              rfl
                             refine take_ (i := 20) (N := some 84) (v := ?_) (a' := ?_) (bm 251658239 34) rfl rfl (take_ofW HT_.out HW_.out (by kernel_rfl)) (fun _ _ _ h => h) (Or.inl ⟨by rfl, ?_⟩) hHeld ?_ ?_
                             rotate_left
                             ·rintro w' ⟨s0, s1, s2, s3, s4, s5, s6, s7, s8, s9, s10⟩
                              go_simp
                              with_reducible rfl
                             rotate_left
                             ·simp only [Act.put, sA, sB, sC, i64_w, i32_w]
                              rfl
                             refine take_ (i := 24) (N := some 88) (v := ?_) (a' := ?_) (bm 268435455 34) rfl rfl (take_ofW HT_.out HW_.out (by kernel_rfl)) (fun _ _ _ h => h) (Or.inl ⟨by rfl, ?_⟩) hHeld ?_ ?_
                             rotate_left
                             ·rintro w' ⟨s0, s1, s2, s3, s4, s5, s6, s7, s8, s9, s10⟩
                              go_simp
                              with_reducible rfl
                             rotate_left
                             ·simp only [Act.put, sA, sB, sC, i64_w, i32_w]
                              rfl
                             refine take_ (i := 28) (N := some 92) (v := ?_) (a' := ?_) (bm 536870911 34) rfl rfl (take_ofW HT_.out HW_.out (by kernel_rfl)) (fun _ _ _ h => h) (Or.inl ⟨by rfl, ?_⟩) hHeld ?_ ?_
                             rotate_left
                             ·rintro w' ⟨s0, s1, s2, s3, s4, s5, s6, s7, s8, s9, s10⟩
                              go_simp
                              with_reducible rfl
                             rotate_left
                             ·simp only [Act.put, sA, sB, sC, i64_w, i32_w]
                              rfl
                             refine one_ (i := 29) (N := some 93) (bm 1073741823 34) rfl rfl (one_of HT_.out (by kernel_rfl)) (by decide) (fun K hK => ?_)
                             refine goes_ Try.func117 (by kernel_rfl) rfl #[.agg #[.int .i64 ((rd_T84 l0 x6_1).f0), .int .i64 ((rd_T84 l0 x6_1).f1), .slice A276_2 ((rd_T84 l0 x6_1).f2).length c276_2], .agg #[.int .i64 ((rd_T84 l1 x7_2).f0), .int .i64 ((rd_T84 l1 x7_2).f1), .slice A277_2 ((rd_T84 l1 x7_2).f2).length c277_2]] (by rfl) rfl rfl (by (try simp only [List.map_toArray, List.map_cons, List.map_nil]); first | done | rfl | (simp only [List.length_drop, List.length_take]; rfl)) ?_
                             with_reducible refine (diff_price.calls k2 ((rd_T84 l0 x6_1).f0) ((rd_T84 l0 x6_1).f1) _ _ ((rd_T84 l0 x6_1).f2) ((rd_T84 l1 x7_2).f0) ((rd_T84 l1 x7_2).f1) _ _ ((rd_T84 l1 x7_2).f2) t278 _ ?side1 ?side2 ?side3 ?side4 A55.out).mono ?_
                             (case side1 => repeat (first | exact (Kd.C_below HR276_2.out HB.out) | (with_reducible refine Kd.C_alloc ?_ _) | (with_reducible refine Kd.C_drewN ?_ _) | (with_reducible refine Kd.C_drew ?_)))
                             (case side2 => exact HC276_2.out)
                             (case side3 => repeat (first | exact (Kd.C_below HR277_2.out HB.out) | (with_reducible refine Kd.C_alloc ?_ _) | (with_reducible refine Kd.C_drewN ?_ _) | (with_reducible refine Kd.C_drew ?_)))
                             (case side4 => exact HC277_2.out)
                             rintro e w65 ⟨rfl, hb⟩
                             have HS0_ := (hb.cell (World.block_lt_of_cell? _ _ (hHeld.1))).trans (hHeld.1)
                             have HS1_ := (hb.cell (World.block_lt_of_cell? _ _ (hHeld.2.1))).trans (hHeld.2.1)
                             have HS2_ := (hb.cell (World.block_lt_of_cell? _ _ (hHeld.2.2.1))).trans (hHeld.2.2.1)
                             have HS3_ := (hb.cell (World.block_lt_of_cell? _ _ (hHeld.2.2.2.1))).trans (hHeld.2.2.2.1)
                             have HS4_ := (hb.cell (World.block_lt_of_cell? _ _ (hHeld.2.2.2.2.1))).trans (hHeld.2.2.2.2.1)
                             refine ⟨_, rfl, ?_⟩
                             have n0_ := Aside0.mk (Kd.S_below (by (with_reducible repeat (first | apply Kd.S_alloc | apply Kd.S_drewN | apply Kd.S_drew)); exact HO_5.out) hb)
                             have n1_ := Aside0.mk (Kd.R_below (by (with_reducible repeat (first | apply Kd.R_alloc | apply Kd.R_drewN | apply Kd.R_drew)); exact HL271_0.out) hb)
                             have n2_ := Aside0.mk (Kd.R_below (by (with_reducible repeat (first | apply Kd.R_alloc | apply Kd.R_drewN | apply Kd.R_drew)); exact HL272_0.out) hb)
                             have n3_ := Aside0.mk (Kd.R_below (by (with_reducible repeat (first | apply Kd.R_alloc | apply Kd.R_drewN | apply Kd.R_drew)); exact HL274_0.out) hb)
                             have n4_ := Aside0.mk (Kd.C_below (by repeat (first | (with_reducible exact HR271_0.out) | (with_reducible refine Kd.C_alloc ?_ _) | (with_reducible refine Kd.C_drewN ?_ _) | (with_reducible refine Kd.C_drew ?_) | exact HR271_0.out)) hb)
                             have n5_ := Aside0.mk (pw_cell_below hb HX271_0.out)
                             have n6_ := Aside0.mk (Kd.C_below (by repeat (first | (with_reducible exact HR272_0.out) | (with_reducible refine Kd.C_alloc ?_ _) | (with_reducible refine Kd.C_drewN ?_ _) | (with_reducible refine Kd.C_drew ?_) | exact HR272_0.out)) hb)
                             have n7_ := Aside0.mk (pw_cell_below hb HX272_0.out)
                             have n8_ := Aside0.mk (Kd.C_below (by repeat (first | (with_reducible exact HR274_0.out) | (with_reducible refine Kd.C_alloc ?_ _) | (with_reducible refine Kd.C_drewN ?_ _) | (with_reducible refine Kd.C_drew ?_) | exact HR274_0.out)) hb)
                             have n9_ := Aside0.mk (pw_cell_below hb HX274_0.out)
                             have n10_ := Aside0.mk (below_step (by with_reducible repeat first | exact HB.out | apply below_alloc | apply pw_below_drewN | apply below_drew1) hb)
                             clear HO_5
                             clear HL271_0
                             clear HL272_0
                             clear HL274_0
                             clear HR271_0
                             clear HX271_0
                             clear HR272_0
                             clear HX272_0
                             clear HR274_0
                             clear HX274_0
                             clear HB
                             have HO_5 := n0_
                             have HL271_0 := n1_
                             have HL272_0 := n2_
                             have HL274_0 := n3_
                             have HR271_0 := n4_
                             have HX271_0 := n5_
                             have HR272_0 := n6_
                             have HX272_0 := n7_
                             have HR274_0 := n8_
                             have HX274_0 := n9_
                             have HB := n10_
                             clear n0_ n1_ n2_ n3_ n4_ n5_ n6_ n7_ n8_ n9_ n10_
                             (try clear hb)
                             (try clear hb2)
                             (try clear hk)
                             (try clear hi)
                             have p57 : 0 ≤ (x7_2 : Int) := of_decide_eq_true (by assumption)
                             have q57 : (x7_2 : Int) < (((rd_L7 y267 x6_1).length : Int) : Int) := of_decide_eq_true (by assumption)
                             obtain ⟨go57, co57, eo57, gb57, gl57, cl57, HG57⟩ := Kd.R_form HL271_0.out (by omega)
                             (first | cases eo57 | (injection eo57 with ea_ en_ ec_; (first | subst ea_ | (injection ea_ with ea_; subst ea_)); subst ec_; clear en_))
                             have GB57 := Aside0.mk gb57
                             have GG57 := Aside0.mk HG57
                             clear gb57 gl57 HG57
                             (first | simp only [add_plain] at hx273_0 | skip)
                             obtain ⟨hx57_0, hf57_0⟩ := Kd.R_celln 0 HL271_0.out (x7_2 : Int) p57 q57
                             replace p57 := eq_true p57
                             replace q57 := eq_true q57
                             have hq66 : (x6_1 : Int) < (x5_2.length : Int) := (by have h_ : (x6_1 : Int) < ((x5_2.length : Int) : Int) := of_decide_eq_true (by assumption); first | exact h_ | (have e_ := (Kd.S_reads' HO_5.out).1; omega) | simpa only [Ny267.out, List.length_set] using h_)
                             obtain ⟨oki66, ce66, hcl66, hM66, hcc66, hok66, hbk66⟩ := Kd.S_borrow HO_5.out [] (x6_1 : Int) (of_decide_eq_true (by assumption)) hq66
                             obtain ⟨ve66_0, rfl, ge66_0⟩ := hM66
                             have hv66 := hcc66 0 _ rfl
                             rw [Nat.add_zero, show ((Kd.slice 3 (Kd.int .i64))).sz = 1 from rfl, Nat.mul_one] at hv66
                             replace hv66 := Option.some.inj (hv66.symm.trans HX271_0.out)
                             subst hv66
                             clear hcc66 hcl66
                             replace ge66_0 := (show Kd.R (Kd.int .i64) 3 _ _ _ _ (rd_L7 y267 x6_1) from ge66_0)
                             have HP66 := Kd.R_putg ge66_0 (x7_2 : Int) ji56
                             rw [← Ny279.out] at HP66
                             have HS66 := hbk66 HP66.2 (fun k_ e_ => by injection e_ with e_; subst e_; exact ge66_0.1 _ rfl) (x' := y279) (Kd.M_row HP66.1)
                             rw [← Ny281.out] at HS66
                             have HQ66 := Aside0.mk HS66
                             clear HP66 HS66 hbk66 hok66
                             refine hK.out _ _ ⟨HS0_, HS1_, HS2_, HS3_, HS4_, ((HB.out.cell (World.block_lt_of_cell? w _ hw276_0)).trans hw276_0), ((HB.out.cell (World.block_lt_of_cell? w _ hw276_1)).trans hw276_1), ((HB.out.cell (World.block_lt_of_cell? w _ hw276_2)).trans hw276_2), ((HB.out.cell (World.block_lt_of_cell? w _ hw277_0)).trans hw277_0), ((HB.out.cell (World.block_lt_of_cell? w _ hw277_1)).trans hw277_1), ((HB.out.cell (World.block_lt_of_cell? w _ hw277_2)).trans hw277_2)⟩ (fun hHeld => ?_)
                             clear hK K
                             refine norm_ (a' := ?_) ?_ ?_
                             rotate_left
                             ·show Act.put _ (some 93) _ = _
                              simp only [Act.put, sA, sB, sC, i64_w, i32_w]
                              rfl
                             refine pure_ (i := 30) (N := some 94) (v := ?_) (a' := ?_) (bm 2147483647 34) rfl rfl (any_of HT_.out (by kernel_rfl)) (fun _ _ _ h => h) (Or.inl ⟨by rfl, ?_⟩) ?_ ?_
                             rotate_left
                             ·intro w'
                              go_simp
                              with_reducible rfl
                             rotate_left
                             ·simp only [Act.put, sA, sB, sC, i64_w, i32_w]
                              rfl
                             refine pure_ (i := 31) (N := some 95) (v := ?_) (a' := ?_) (bm 4294967295 34) rfl rfl (any_of HT_.out (by kernel_rfl)) (fun _ _ _ h => h) (Or.inl ⟨by rfl, ?_⟩) ?_ ?_
                             rotate_left
                             ·intro w'
                              go_simp
                              with_reducible rfl
                             rotate_left
                             ·simp only [Act.put, sA, sB, sC, i64_w, i32_w]
                              rfl
                             refine pure_ (i := 32) (N := some 96) (v := ?_) (a' := ?_) (bm 8589934591 34) rfl rfl (any_of HT_.out (by kernel_rfl)) (fun _ _ _ h => h) (Or.inl ⟨by rfl, ?_⟩) ?_ ?_
                             rotate_left
                             ·intro w'
                              go_simp
                              with_reducible rfl
                             rotate_left
                             ·simp only [Act.put, sA, sB, sC, i64_w, i32_w]
                              rfl
                             refine last_ (i := 33) (N := none) (bm 17179869183 34) rfl rfl (one_of HT_.out (by kernel_rfl)) (by decide) (fun K hK => ?_)
                             refine skip_ (w1 := ?_) (by rfl) rfl ?_ ?_
                             rotate_left
                             ·go_simp
                              rfl
                             refine hK.out _ _ ?_
                             clear hK K
                             refine done_ (done_of HT_.out (by kernel_rfl)) ?_
                             try go_wp2
                             (try simp only [← hl5_2])
                             go_roundg k2
                             case measure => have := HK1.out; have := HK2.out; omega
                             case rel => exact ⟨(y281), (wrap64 (x7_2 - 1)), (by first | rfl | (simp; done) | (simp [*]; done)), H', ⟨by have := HK1.out; have := HK2.out; omega⟩, ⟨by (try simp only [hl5_2]); (with_reducible repeat (first | apply Kd.S_alloc | apply Kd.S_drewN | apply Kd.S_drew)); exact HQ66.out⟩, ⟨by repeat (first | (with_reducible first | exact HB.out | apply below_alloc | apply pw_below_drewN | apply below_drew1 | refine below_set ?_ GB57.out) | exact HB.out)⟩⟩
                            ·rw [if_neg c54] at H
                             exact absurd H (by simp)
                           ·rw [if_neg c53] at H
                            exact absurd H (by simp)
                          ·replace c52 := Bool.eq_false_iff.mpr c52
                           subst c52
                           have H1 : (diff_table.l1 k2 l0 l1 y267 x6_1 (wrap64 (x7_2 - 1))) = some r := by rw [if_neg (show ¬ (false = true) by decide)] at H; exact H
                           clear H
                           have H := H1
                           clear H1
                           have H' := Aside0.mk H
                           clear H
                           try go_wp2
                           have n0_ := Aside0.mk (Kd.S_drew HO_5.out)
                           have n1_ := Aside0.mk (below_drew1 HB.out)
                           clear HO_5
                           clear HB
                           have HO_5 := n0_
                           have HB := n1_
                           clear n0_ n1_
                           have p260 : 0 ≤ (x6_1 : Int) := of_decide_eq_true (by assumption)
                           have q260 : x6_1 < (x5_2.length : Int) := of_decide_eq_true (by assumption)
                           obtain ⟨ad260, A260_0, c260_0, e260, hx260_0, hl260_0, hi260_0⟩ := at_L7 (Kd.S_reads' HO_5.out).2.2 x6_1 p260 q260
                           obtain rfl : (⟨go14, 0, none⟩ : Addr) = ad260 := (by injection e260)
                           obtain ⟨ce260, hce260, hMe260, hcc260⟩ := Kd.S_get HO_5.out [] x6_1 p260 (by first | exact q260 | exact of_decide_eq_true (by assumption) | (have e_ := (Kd.S_reads' HO_5.out).1; omega))
                           obtain ⟨ve260_0, rfl, ge260_0⟩ := hMe260
                           have hv260_0 := hcc260 0 _ rfl
                           rw [Nat.add_zero, show ((Kd.slice 3 (Kd.int .i64))).sz = 1 from rfl, Nat.mul_one] at hv260_0
                           replace hv260_0 := Option.some.inj (hv260_0.symm.trans hx260_0)
                           rw [hv260_0] at ge260_0
                           have HL260_0 := Aside0.mk (show Kd.R (Kd.int .i64) 3 _ _ _ _ (rd_L7 x5_2 x6_1) from ge260_0)
                           clear hv260_0 ge260_0
                           have HX260_0 := Aside0.mk hx260_0
                           clear hcc260 hce260
                           (first | simp only [add_plain] at hx260_0 | simp only [add_at] at hx260_0 | simp only [Addr.add, Nat.zero_add] at hx260_0 | skip)
                           have HR260_0 := Aside0.mk hi260_0
                           have HC260_0 := Aside0.mk hl260_0
                           clear hi260_0 hl260_0
                           replace p260 := eq_true p260
                           replace q260 := eq_true q260
                           have p261 : 0 ≤ ((ji38) : Int) := of_decide_eq_true (by assumption)
                           have q261 : (ji38) < (x5_2.length : Int) := of_decide_eq_true (by assumption)
                           obtain ⟨ad261, A261_0, c261_0, e261, hx261_0, hl261_0, hi261_0⟩ := at_L7 (Kd.S_reads' HO_5.out).2.2 (ji38) p261 q261
                           obtain rfl : (⟨go14, 0, none⟩ : Addr) = ad261 := (by injection e261)
                           obtain ⟨ce261, hce261, hMe261, hcc261⟩ := Kd.S_get HO_5.out [] (ji38) p261 (by first | exact q261 | exact of_decide_eq_true (by assumption) | (have e_ := (Kd.S_reads' HO_5.out).1; omega))
                           obtain ⟨ve261_0, rfl, ge261_0⟩ := hMe261
                           have hv261_0 := hcc261 0 _ rfl
                           rw [Nat.add_zero, show ((Kd.slice 3 (Kd.int .i64))).sz = 1 from rfl, Nat.mul_one] at hv261_0
                           replace hv261_0 := Option.some.inj (hv261_0.symm.trans hx261_0)
                           rw [hv261_0] at ge261_0
                           have HL261_0 := Aside0.mk (show Kd.R (Kd.int .i64) 3 _ _ _ _ (rd_L7 x5_2 (ji38)) from ge261_0)
                           clear hv261_0 ge261_0
                           have HX261_0 := Aside0.mk hx261_0
                           clear hcc261 hce261
                           (first | simp only [add_plain] at hx261_0 | simp only [add_at] at hx261_0 | simp only [Addr.add, Nat.zero_add] at hx261_0 | skip)
                           have HR261_0 := Aside0.mk hi261_0
                           have HC261_0 := Aside0.mk hl261_0
                           clear hi261_0 hl261_0
                           replace p261 := eq_true p261
                           replace q261 := eq_true q261
                           have p262 : 0 ≤ (x7_2 : Int) := of_decide_eq_true (by assumption)
                           have q262 : x7_2 < ((rd_L7 x5_2 (ji38)).length : Int) := of_decide_eq_true (by assumption)
                           obtain ⟨ad262, e262, hx262_0⟩ := Kd.at_int (by repeat (first | (with_reducible exact HR261_0.out) | (with_reducible refine Kd.C_alloc ?_ _) | (with_reducible refine Kd.C_drewN ?_ _) | (with_reducible refine Kd.C_drew ?_) | exact HR261_0.out)) x7_2 p262 q262
                           cases e262
                           replace p262 := eq_true p262
                           replace q262 := eq_true q262
                           have p263 : 0 ≤ (x6_1 : Int) := of_decide_eq_true (by assumption)
                           have q263 : x6_1 < (x5_2.length : Int) := of_decide_eq_true (by assumption)
                           obtain ⟨ad263, A263_0, c263_0, e263, hx263_0, hl263_0, hi263_0⟩ := at_L7 (Kd.S_reads' HO_5.out).2.2 x6_1 p263 q263
                           obtain rfl : (⟨go14, 0, none⟩ : Addr) = ad263 := (by injection e263)
                           obtain ⟨ce263, hce263, hMe263, hcc263⟩ := Kd.S_get HO_5.out [] x6_1 p263 (by first | exact q263 | exact of_decide_eq_true (by assumption) | (have e_ := (Kd.S_reads' HO_5.out).1; omega))
                           obtain ⟨ve263_0, rfl, ge263_0⟩ := hMe263
                           have hv263_0 := hcc263 0 _ rfl
                           rw [Nat.add_zero, show ((Kd.slice 3 (Kd.int .i64))).sz = 1 from rfl, Nat.mul_one] at hv263_0
                           replace hv263_0 := Option.some.inj (hv263_0.symm.trans hx263_0)
                           rw [hv263_0] at ge263_0
                           have HL263_0 := Aside0.mk (show Kd.R (Kd.int .i64) 3 _ _ _ _ (rd_L7 x5_2 x6_1) from ge263_0)
                           clear hv263_0 ge263_0
                           have HX263_0 := Aside0.mk hx263_0
                           clear hcc263 hce263
                           (first | simp only [add_plain] at hx263_0 | simp only [add_at] at hx263_0 | simp only [Addr.add, Nat.zero_add] at hx263_0 | skip)
                           have HR263_0 := Aside0.mk hi263_0
                           have HC263_0 := Aside0.mk hl263_0
                           clear hi263_0 hl263_0
                           replace p263 := eq_true p263
                           replace q263 := eq_true q263
                           have ea_ := Option.some.inj (hx260_0.symm.trans hx263_0)
                           injection ea_ with ea_ en_ ec_
                           subst ea_
                           subst ec_
                           clear en_
                           have p264 : 0 ≤ ((ji43) : Int) := of_decide_eq_true (by assumption)
                           have q264 : (ji43) < ((rd_L7 x5_2 x6_1).length : Int) := of_decide_eq_true (by assumption)
                           obtain ⟨ad264, e264, hx264_0⟩ := Kd.at_int (by repeat (first | (with_reducible exact HR263_0.out) | (with_reducible refine Kd.C_alloc ?_ _) | (with_reducible refine Kd.C_drewN ?_ _) | (with_reducible refine Kd.C_drew ?_) | exact HR263_0.out)) (ji43) p264 q264
                           cases e264
                           replace p264 := eq_true p264
                           replace q264 := eq_true q264
                           have p48 : 0 ≤ (x7_2 : Int) := of_decide_eq_true (by assumption)
                           have q48 : (x7_2 : Int) < (((rd_L7 x5_2 x6_1).length : Int) : Int) := of_decide_eq_true (by assumption)
                           obtain ⟨go48, co48, eo48, gb48, gl48, cl48, HG48⟩ := Kd.R_form HL260_0.out (by omega)
                           (first | cases eo48 | (injection eo48 with ea_ en_ ec_; (first | subst ea_ | (injection ea_ with ea_; subst ea_)); subst ec_; clear en_))
                           have GB48 := Aside0.mk gb48
                           have GG48 := Aside0.mk HG48
                           clear gb48 gl48 HG48
                           (first | simp only [add_plain] at hx264_0 | skip)
                           obtain ⟨hx48_0, hf48_0⟩ := Kd.R_celln 0 HL260_0.out (x7_2 : Int) p48 q48
                           replace p48 := eq_true p48
                           replace q48 := eq_true q48
                           have hq69 : (x6_1 : Int) < (x5_2.length : Int) := (by have h_ : (x6_1 : Int) < ((x5_2.length : Int) : Int) := of_decide_eq_true (by assumption); first | exact h_ | (have e_ := (Kd.S_reads' HO_5.out).1; omega) | simpa only [List.length_set, List.length_set] using h_)
                           obtain ⟨oki69, ce69, hcl69, hM69, hcc69, hok69, hbk69⟩ := Kd.S_borrow HO_5.out [] (x6_1 : Int) (of_decide_eq_true (by assumption)) hq69
                           obtain ⟨ve69_0, rfl, ge69_0⟩ := hM69
                           have hv69 := hcc69 0 _ rfl
                           rw [Nat.add_zero, show ((Kd.slice 3 (Kd.int .i64))).sz = 1 from rfl, Nat.mul_one] at hv69
                           replace hv69 := Option.some.inj (hv69.symm.trans HX260_0.out)
                           subst hv69
                           clear hcc69 hcl69
                           replace ge69_0 := (show Kd.R (Kd.int .i64) 3 _ _ _ _ (rd_L7 x5_2 x6_1) from ge69_0)
                           have HP69 := Kd.R_putg ge69_0 (x7_2 : Int) (wrap64 (1 + (ji46)))
                           rw [← Ny265.out] at HP69
                           have HS69 := hbk69 HP69.2 (fun k_ e_ => by injection e_ with e_; subst e_; exact ge69_0.1 _ rfl) (x' := y265) (Kd.M_row HP69.1)
                           rw [← Ny267.out] at HS69
                           have HQ69 := Aside0.mk HS69
                           clear HP69 HS69 hbk69 hok69
                           refine start_ (n := 25) (S := fun w' => w'.cell? ⟨go14, (x6_1).toNat, none⟩ = some (.slice (some ⟨go48, 0, none⟩) (rd_L7 x5_2 x6_1).length c260_0) ∧ w'.cell? ⟨go14, ((ji38)).toNat, none⟩ = some (.slice (some ad262) (rd_L7 x5_2 (ji38)).length c261_0) ∧ w'.cell? (ad262.add (x7_2).toNat) = some (.int .i64 (rd (rd_L7 x5_2 (ji38)) x7_2)) ∧ w'.cell? ⟨go14, (x6_1).toNat, none⟩ = some (.slice (some ⟨go48, 0, none⟩) (rd_L7 x5_2 x6_1).length c260_0) ∧ w'.cell? ⟨go48, ((ji43)).toNat, none⟩ = some (.int .i64 (rd (rd_L7 x5_2 x6_1) (ji43)))) (ds := [24]) #[false, false, false, false, false, false, false, false, false, false, false, false, false, false, false, false, false, false, false, false, false, false, false, false, false] (by kernel_rfl) rfl rfl ⟨hx260_0, hx261_0, hx262_0, hx263_0, hx264_0⟩ (fun hHeld => ?_); refine with_tabW diff_table.tab9 diff_table.bits9 (fun HT_ HW_ => ?_)
                           generalize wr.drew = w68 at HO_5 HB GG48 HL260_0 HL261_0 HL263_0 HQ69 HR260_0 HR261_0 HR263_0 HX260_0 HX261_0 HX263_0 hf48_0 hx260_0 hx261_0 hx262_0 hx263_0 hx264_0 hx48_0 hHeld ⊢
                           refine pure_ (i := 0) (N := some 31) (v := ?_) (a' := ?_) (bm 1 25) rfl rfl (any_of HT_.out (by kernel_rfl)) (fun _ _ _ h => h) (Or.inl ⟨by rfl, ?_⟩) ?_ ?_
                           rotate_left
                           ·intro w'
                            go_simp
                            with_reducible rfl
                           rotate_left
                           ·simp only [Act.put, sA, sB, sC, i64_w, i32_w]
                            rfl
                           refine pure_ (i := 1) (N := some 32) (v := ?_) (a' := ?_) (bm 3 25) rfl rfl (any_of HT_.out (by kernel_rfl)) (fun _ _ _ h => h) (Or.inl ⟨by rfl, ?_⟩) ?_ ?_
                           rotate_left
                           ·intro w'
                            go_simp
                            with_reducible rfl
                           rotate_left
                           ·simp only [Act.put, sA, sB, sC, i64_w, i32_w]
                            rfl
                           refine pure_ (i := 2) (N := some 33) (v := ?_) (a' := ?_) (bm 7 25) rfl rfl (any_of HT_.out (by kernel_rfl)) (fun _ _ _ h => h) (Or.inl ⟨by rfl, ?_⟩) ?_ ?_
                           rotate_left
                           ·intro w'
                            go_simp
                            with_reducible rfl
                           rotate_left
                           ·simp only [Act.put, sA, sB, sC, i64_w, i32_w]
                            rfl
                           refine pure_ (i := 4) (N := some 35) (v := ?_) (a' := ?_) (bm 23 25) rfl rfl (any_of HT_.out (by kernel_rfl)) (fun _ _ _ h => h) (Or.inl ⟨by rfl, ?_⟩) ?_ ?_
                           rotate_left
                           ·intro w'
                            go_simp
                            with_reducible rfl
                           rotate_left
                           ·simp only [Act.put, sA, sB, sC, i64_w, i32_w]
                            rfl
                           refine pure_ (i := 5) (N := some 36) (v := ?_) (a' := ?_) (bm 55 25) rfl rfl (any_of HT_.out (by kernel_rfl)) (fun _ _ _ h => h) (Or.inl ⟨by rfl, ?_⟩) ?_ ?_
                           rotate_left
                           ·intro w'
                            go_simp
                            with_reducible rfl
                           rotate_left
                           ·simp only [Act.put, sA, sB, sC, i64_w, i32_w]
                            rfl
                           refine pure_ (i := 6) (N := some 37) (v := ?_) (a' := ?_) (bm 119 25) rfl rfl (any_of HT_.out (by kernel_rfl)) (fun _ _ _ h => h) (Or.inl ⟨by rfl, ?_⟩) ?_ ?_
                           rotate_left
                           ·intro w'
                            go_simp
                            with_reducible rfl
                           rotate_left
                           ·simp only [Act.put, sA, sB, sC, i64_w, i32_w]
                            rfl
                           refine pure_ (i := 7) (N := some 38) (v := ?_) (a' := ?_) (bm 247 25) rfl rfl (any_of HT_.out (by kernel_rfl)) (fun _ _ _ h => h) (Or.inl ⟨by rfl, ?_⟩) ?_ ?_
                           rotate_left
                           ·intro w'
                            go_simp
                            with_reducible rfl
                           rotate_left
                           ·simp only [Act.put, sA, sB, sC, i64_w, i32_w]
                            rfl
                           refine pure_ (i := 8) (N := some 39) (v := ?_) (a' := ?_) (bm 503 25) rfl rfl (any_of HT_.out (by kernel_rfl)) (fun _ _ _ h => h) (Or.inl ⟨by rfl, ?_⟩) ?_ ?_
                           rotate_left
                           ·intro w'
                            go_simp
                            with_reducible rfl
                           rotate_left
                           ·simp only [Act.put, sA, sB, sC, i64_w, i32_w]
                            rfl
                           refine pure_ (i := 10) (N := some 41) (v := ?_) (a' := ?_) (bm 1527 25) rfl rfl (any_of HT_.out (by kernel_rfl)) (fun _ _ _ h => h) (Or.inl ⟨by rfl, ?_⟩) ?_ ?_
                           rotate_left
                           ·intro w'
                            go_simp
                            with_reducible rfl
                           rotate_left
                           ·simp only [Act.put, sA, sB, sC, i64_w, i32_w]
                            rfl
                           refine pure_ (i := 13) (N := some 44) (v := ?_) (a' := ?_) (bm 9719 25) rfl rfl (any_of HT_.out (by kernel_rfl)) (fun _ _ _ h => h) (Or.inl ⟨by rfl, ?_⟩) ?_ ?_
                           rotate_left
                           ·intro w'
                            go_simp
                            with_reducible rfl
                           rotate_left
                           ·simp only [Act.put, sA, sB, sC, i64_w, i32_w]
                            rfl
                           refine pure_ (i := 14) (N := some 45) (v := ?_) (a' := ?_) (bm 26103 25) rfl rfl (any_of HT_.out (by kernel_rfl)) (fun _ _ _ h => h) (Or.inl ⟨by rfl, ?_⟩) ?_ ?_
                           rotate_left
                           ·intro w'
                            go_simp
                            with_reducible rfl
                           rotate_left
                           ·simp only [Act.put, sA, sB, sC, i64_w, i32_w]
                            rfl
                           refine pure_ (i := 15) (N := some 46) (v := ?_) (a' := ?_) (bm 58871 25) rfl rfl (any_of HT_.out (by kernel_rfl)) (fun _ _ _ h => h) (Or.inl ⟨by rfl, ?_⟩) ?_ ?_
                           rotate_left
                           ·intro w'
                            go_simp
                            with_reducible rfl
                           rotate_left
                           ·simp only [Act.put, sA, sB, sC, i64_w, i32_w]
                            rfl
                           refine pure_ (i := 17) (N := some 48) (v := ?_) (a' := ?_) (bm 189943 25) rfl rfl (any_of HT_.out (by kernel_rfl)) (fun _ _ _ h => h) (Or.inl ⟨by rfl, ?_⟩) ?_ ?_
                           rotate_left
                           ·intro w'
                            go_simp
                            with_reducible rfl
                           rotate_left
                           ·simp only [Act.put, sA, sB, sC, i64_w, i32_w]
                            rfl
                           refine pure_ (i := 18) (N := some 49) (v := ?_) (a' := ?_) (bm 452087 25) rfl rfl (any_of HT_.out (by kernel_rfl)) (fun _ _ _ h => h) (Or.inl ⟨by rfl, ?_⟩) ?_ ?_
                           rotate_left
                           ·intro w'
                            go_simp
                            with_reducible rfl
                           rotate_left
                           ·simp only [Act.put, sA, sB, sC, i64_w, i32_w]
                            rfl
                           refine take_ (i := 3) (N := some 34) (v := ?_) (a' := ?_) (bm 452095 25) rfl rfl (take_ofW HT_.out HW_.out (by kernel_rfl)) (fun _ _ _ h => h) (Or.inl ⟨by rfl, ?_⟩) hHeld ?_ ?_
                           rotate_left
                           ·rintro w' ⟨s0, s1, s2, s3, s4⟩
                            go_simp
                            with_reducible rfl
                           rotate_left
                           ·simp only [Act.put, sA, sB, sC, i64_w, i32_w]
                            rfl
                           refine take_ (i := 9) (N := some 40) (v := ?_) (a' := ?_) (bm 452607 25) rfl rfl (take_ofW HT_.out HW_.out (by kernel_rfl)) (fun _ _ _ h => h) (Or.inl ⟨by rfl, ?_⟩) hHeld ?_ ?_
                           rotate_left
                           ·rintro w' ⟨s0, s1, s2, s3, s4⟩
                            go_simp
                            with_reducible rfl
                           rotate_left
                           ·simp only [Act.put, sA, sB, sC, i64_w, i32_w]
                            rfl
                           refine pure_ (i := 11) (N := some 42) (v := ?_) (a' := ?_) (bm 454655 25) rfl rfl (any_of HT_.out (by kernel_rfl)) (fun _ _ _ h => h) (Or.inl ⟨by rfl, ?_⟩) ?_ ?_
                           rotate_left
                           ·intro w'
                            go_simp
                            with_reducible rfl
                           rotate_left
                           ·simp only [Act.put, sA, sB, sC, i64_w, i32_w]
                            rfl
                           refine take_ (i := 12) (N := some 43) (v := ?_) (a' := ?_) (bm 458751 25) rfl rfl (take_ofW HT_.out HW_.out (by kernel_rfl)) (fun _ _ _ h => h) (Or.inl ⟨by rfl, ?_⟩) hHeld ?_ ?_
                           rotate_left
                           ·rintro w' ⟨s0, s1, s2, s3, s4⟩
                            go_simp
                            with_reducible rfl
                           rotate_left
                           ·simp only [Act.put, sA, sB, sC, i64_w, i32_w]
                            rfl
                           refine take_ (i := 16) (N := some 47) (v := ?_) (a' := ?_) (bm 524287 25) rfl rfl (take_ofW HT_.out HW_.out (by kernel_rfl)) (fun _ _ _ h => h) (Or.inl ⟨by rfl, ?_⟩) hHeld ?_ ?_
                           rotate_left
                           ·rintro w' ⟨s0, s1, s2, s3, s4⟩
                            go_simp
                            with_reducible rfl
                           rotate_left
                           ·simp only [Act.put, sA, sB, sC, i64_w, i32_w]
                            rfl
                           refine pure_ (i := 19) (N := some 50) (v := ?_) (a' := ?_) (bm 1048575 25) rfl rfl (any_of HT_.out (by kernel_rfl)) (fun _ _ _ h => h) (Or.inl ⟨by rfl, ?_⟩) ?_ ?_
                           rotate_left
                           ·intro w'
                            go_simp
                            with_reducible rfl
                           rotate_left
                           ·simp only [Act.put, sA, sB, sC, i64_w, i32_w]
                            rfl
                           refine take_ (i := 20) (N := some 51) (v := ?_) (a' := ?_) (bm 2097151 25) rfl rfl (take_ofW HT_.out HW_.out (by kernel_rfl)) (fun _ _ _ h => h) (Or.inl ⟨by rfl, ?_⟩) hHeld ?_ ?_
                           rotate_left
                           ·rintro w' ⟨s0, s1, s2, s3, s4⟩
                            go_simp
                            with_reducible rfl
                           rotate_left
                           ·simp only [Act.put, sA, sB, sC, i64_w, i32_w]
                            rfl
                           refine pure_ (i := 21) (N := some 52) (v := ?_) (a' := ?_) (bm 4194303 25) rfl rfl (any_of HT_.out (by kernel_rfl)) (fun _ _ _ h => h) (Or.inl ⟨by rfl, ?_⟩) ?_ ?_
                           rotate_left
                           ·intro w'
                            go_simp
                            with_reducible rfl
                           rotate_left
                           ·simp only [Act.put, sA, sB, sC, i64_w, i32_w]
                            rfl
                           refine pure_ (i := 22) (N := some 53) (v := ?_) (a' := ?_) (bm 8388607 25) rfl rfl (any_of HT_.out (by kernel_rfl)) (fun _ _ _ h => h) (Or.inl ⟨by rfl, ?_⟩) ?_ ?_
                           rotate_left
                           ·intro w'
                            go_simp
                            with_reducible rfl
                           rotate_left
                           ·simp only [Act.put, sA, sB, sC, i64_w, i32_w]
                            rfl
                           refine pure_ (i := 23) (N := some 54) (v := ?_) (a' := ?_) (bm 16777215 25) rfl rfl (any_of HT_.out (by kernel_rfl)) (fun _ _ _ h => h) (Or.inl ⟨by rfl, ?_⟩) ?_ ?_
                           rotate_left
                           ·intro w'
                            go_simp
                            with_reducible rfl
                           rotate_left
                           ·simp only [Act.put, sA, sB, sC, i64_w, i32_w]
                            rfl
                           refine last_ (i := 24) (N := none) (bm 33554431 25) rfl rfl (one_of HT_.out (by kernel_rfl)) (by decide) (fun K hK => ?_)
                           refine skip_ (w1 := ?_) (by rfl) rfl ?_ ?_
                           rotate_left
                           ·go_simp
                            rfl
                           refine hK.out _ _ ?_
                           clear hK K
                           refine done_ (done_of HT_.out (by kernel_rfl)) ?_
                           try go_wp2
                           have n0_ : Aside0 (Kd.S (Kd.slice 3 (Kd.int .i64)) 43 (w68.setCell ⟨go48, (x7_2 : Int).toNat, none⟩ (.int .i64 (wrap64 (1 + (ji46))))) w.heap.size (fun _ => True) (.slice (some ⟨go14, 0, none⟩) x5_2.length co14) y267) := ⟨by (with_reducible repeat (first | apply Kd.S_alloc | apply Kd.S_drewN | apply Kd.S_drew)); exact HQ69.out⟩
                           have n1_ : Aside0 (Below w.heap.size w (w68.setCell ⟨go48, (x7_2 : Int).toNat, none⟩ (.int .i64 (wrap64 (1 + (ji46)))))) := ⟨by repeat (first | (with_reducible first | exact HB.out | apply below_alloc | apply pw_below_drewN | apply below_drew1 | refine below_set ?_ GB48.out) | exact HB.out)⟩
                           (try clear HO_5)
                           (try clear HB)
                           generalize (w68.setCell ⟨go48, (x7_2 : Int).toNat, none⟩ (.int .i64 (wrap64 (1 + (ji46))))) = w71 at n0_ n1_ ⊢
                           have HO_5 := n0_
                           have HB := n1_
                           clear n0_ n1_
                           have n0_ := Aside0.mk (Kd.S_drew HO_5.out)
                           have n1_ := Aside0.mk (below_drew1 HB.out)
                           clear HO_5
                           clear HB
                           have HO_5 := n0_
                           have HB := n1_
                           clear n0_ n1_
                           have p268 : 0 ≤ (x6_1 : Int) := of_decide_eq_true (by assumption)
                           have q268 : x6_1 < (l0.length : Int) := of_decide_eq_true (by assumption)
                           obtain ⟨ad268, A268_2, c268_2, e268, hx268_0, hx268_1, hx268_2, hl268_2, hi268_2⟩ := at_T84 HR0.out x6_1 p268 q268
                           have hw268_2 := hx268_2
                           have hw268_1 := hx268_1
                           have hw268_0 := hx268_0
                           cases e268
                           replace hx268_0 := (HB.out.cell (World.block_lt_of_cell? w _ hx268_0)).trans hx268_0
                           replace hx268_1 := (HB.out.cell (World.block_lt_of_cell? w _ hx268_1)).trans hx268_1
                           replace hx268_2 := (HB.out.cell (World.block_lt_of_cell? w _ hx268_2)).trans hx268_2
                           have HR268_2 := Aside0.mk hi268_2
                           have HC268_2 := Aside0.mk hl268_2
                           clear hi268_2 hl268_2
                           replace p268 := eq_true p268
                           replace q268 := eq_true q268
                           have p269 : 0 ≤ (x7_2 : Int) := of_decide_eq_true (by assumption)
                           have q269 : x7_2 < (l1.length : Int) := of_decide_eq_true (by assumption)
                           obtain ⟨ad269, A269_2, c269_2, e269, hx269_0, hx269_1, hx269_2, hl269_2, hi269_2⟩ := at_T84 HR1.out x7_2 p269 q269
                           have hw269_2 := hx269_2
                           have hw269_1 := hx269_1
                           have hw269_0 := hx269_0
                           cases e269
                           replace hx269_0 := (HB.out.cell (World.block_lt_of_cell? w _ hx269_0)).trans hx269_0
                           replace hx269_1 := (HB.out.cell (World.block_lt_of_cell? w _ hx269_1)).trans hx269_1
                           replace hx269_2 := (HB.out.cell (World.block_lt_of_cell? w _ hx269_2)).trans hx269_2
                           have HR269_2 := Aside0.mk hi269_2
                           have HC269_2 := Aside0.mk hl269_2
                           clear hi269_2 hl269_2
                           replace p269 := eq_true p269
                           replace q269 := eq_true q269
                           refine start_ (n := 9) (S := fun w' => w'.cell? (ad268.add ((x6_1).toNat * 3)) = some (.int .i64 ((rd_T84 l0 x6_1).f0)) ∧ w'.cell? ⟨(ad268.add ((x6_1).toNat * 3)).block, (ad268.add ((x6_1).toNat * 3)).off + 1, none⟩ = some (.int .i64 ((rd_T84 l0 x6_1).f1)) ∧ w'.cell? ⟨(ad268.add ((x6_1).toNat * 3)).block, (ad268.add ((x6_1).toNat * 3)).off + 2, none⟩ = some (.slice A268_2 ((rd_T84 l0 x6_1).f2).length c268_2) ∧ w'.cell? (ad269.add ((x7_2).toNat * 3)) = some (.int .i64 ((rd_T84 l1 x7_2).f0)) ∧ w'.cell? ⟨(ad269.add ((x7_2).toNat * 3)).block, (ad269.add ((x7_2).toNat * 3)).off + 1, none⟩ = some (.int .i64 ((rd_T84 l1 x7_2).f1)) ∧ w'.cell? ⟨(ad269.add ((x7_2).toNat * 3)).block, (ad269.add ((x7_2).toNat * 3)).off + 2, none⟩ = some (.slice A269_2 ((rd_T84 l1 x7_2).f2).length c269_2)) (ds := []) #[false, false, false, false, false, false, false, false, false] (by kernel_rfl) rfl rfl ⟨((HB.out.cell (World.block_lt_of_cell? w _ hw268_0)).trans hw268_0), ((HB.out.cell (World.block_lt_of_cell? w _ hw268_1)).trans hw268_1), ((HB.out.cell (World.block_lt_of_cell? w _ hw268_2)).trans hw268_2), ((HB.out.cell (World.block_lt_of_cell? w _ hw269_0)).trans hw269_0), ((HB.out.cell (World.block_lt_of_cell? w _ hw269_1)).trans hw269_1), ((HB.out.cell (World.block_lt_of_cell? w _ hw269_2)).trans hw269_2)⟩ (fun hHeld => ?_); refine with_tabW diff_table.tab10 diff_table.bits10 (fun HT_ HW_ => ?_)
                           generalize w71.drew = w72 at HO_5 HB HQ69 HR268_2 HR269_2 hx268_0 hx268_1 hx268_2 hx269_0 hx269_1 hx269_2 hHeld ⊢
                           refine pure_ (i := 0) (N := some 55) (v := ?_) (a' := ?_) (bm 1 9) rfl rfl (any_of HT_.out (by kernel_rfl)) (fun _ _ _ h => h) (Or.inl ⟨by rfl, ?_⟩) ?_ ?_
                           rotate_left
                           ·intro w'
                            go_simp
                            with_reducible rfl
                           rotate_left
                           ·simp only [Act.put, sA, sB, sC, i64_w, i32_w]
                            rfl
                           refine pure_ (i := 1) (N := some 56) (v := ?_) (a' := ?_) (bm 3 9) rfl rfl (any_of HT_.out (by kernel_rfl)) (fun _ _ _ h => h) (Or.inl ⟨by rfl, ?_⟩) ?_ ?_
                           rotate_left
                           ·intro w'
                            go_simp
                            with_reducible rfl
                           rotate_left
                           ·simp only [Act.put, sA, sB, sC, i64_w, i32_w]
                            rfl
                           refine pure_ (i := 2) (N := some 57) (v := ?_) (a' := ?_) (bm 7 9) rfl rfl (any_of HT_.out (by kernel_rfl)) (fun _ _ _ h => h) (Or.inl ⟨by rfl, ?_⟩) ?_ ?_
                           rotate_left
                           ·intro w'
                            go_simp
                            with_reducible rfl
                           rotate_left
                           ·simp only [Act.put, sA, sB, sC, i64_w, i32_w]
                            rfl
                           refine pure_ (i := 4) (N := some 59) (v := ?_) (a' := ?_) (bm 23 9) rfl rfl (any_of HT_.out (by kernel_rfl)) (fun _ _ _ h => h) (Or.inl ⟨by rfl, ?_⟩) ?_ ?_
                           rotate_left
                           ·intro w'
                            go_simp
                            with_reducible rfl
                           rotate_left
                           ·simp only [Act.put, sA, sB, sC, i64_w, i32_w]
                            rfl
                           refine pure_ (i := 5) (N := some 60) (v := ?_) (a' := ?_) (bm 55 9) rfl rfl (any_of HT_.out (by kernel_rfl)) (fun _ _ _ h => h) (Or.inl ⟨by rfl, ?_⟩) ?_ ?_
                           rotate_left
                           ·intro w'
                            go_simp
                            with_reducible rfl
                           rotate_left
                           ·simp only [Act.put, sA, sB, sC, i64_w, i32_w]
                            rfl
                           refine pure_ (i := 6) (N := some 61) (v := ?_) (a' := ?_) (bm 119 9) rfl rfl (any_of HT_.out (by kernel_rfl)) (fun _ _ _ h => h) (Or.inl ⟨by rfl, ?_⟩) ?_ ?_
                           rotate_left
                           ·intro w'
                            go_simp
                            with_reducible rfl
                           rotate_left
                           ·simp only [Act.put, sA, sB, sC, i64_w, i32_w]
                            rfl
                           refine take_ (i := 3) (N := some 58) (v := ?_) (a' := ?_) (bm 127 9) rfl rfl (take_ofW HT_.out HW_.out (by kernel_rfl)) (fun _ _ _ h => h) (Or.inl ⟨by rfl, ?_⟩) hHeld ?_ ?_
                           rotate_left
                           ·rintro w' ⟨s0, s1, s2, s3, s4, s5⟩
                            go_simp
                            with_reducible rfl
                           rotate_left
                           ·simp only [Act.put, sA, sB, sC, i64_w, i32_w]
                            rfl
                           refine take_ (i := 7) (N := some 62) (v := ?_) (a' := ?_) (bm 255 9) rfl rfl (take_ofW HT_.out HW_.out (by kernel_rfl)) (fun _ _ _ h => h) (Or.inl ⟨by rfl, ?_⟩) hHeld ?_ ?_
                           rotate_left
                           ·rintro w' ⟨s0, s1, s2, s3, s4, s5⟩
                            go_simp
                            with_reducible rfl
                           rotate_left
                           ·simp only [Act.put, sA, sB, sC, i64_w, i32_w]
                            rfl
                           refine one_ (i := 8) (N := some 63) (bm 511 9) rfl rfl (one_of HT_.out (by kernel_rfl)) (by decide) (fun K hK => ?_)
                           refine goes_ Try.func116 (by kernel_rfl) rfl #[.agg #[.int .i64 ((rd_T84 l0 x6_1).f0), .int .i64 ((rd_T84 l0 x6_1).f1), .slice A268_2 ((rd_T84 l0 x6_1).f2).length c268_2], .agg #[.int .i64 ((rd_T84 l1 x7_2).f0), .int .i64 ((rd_T84 l1 x7_2).f1), .slice A269_2 ((rd_T84 l1 x7_2).f2).length c269_2]] (by rfl) rfl rfl (by (try simp only [List.map_toArray, List.map_cons, List.map_nil]); first | done | rfl | (simp only [List.length_drop, List.length_take]; rfl)) ?_
                           with_reducible refine (diff_alike.calls ((rd_T84 l0 x6_1).f0) ((rd_T84 l0 x6_1).f1) _ _ ((rd_T84 l0 x6_1).f2) ((rd_T84 l1 x7_2).f0) ((rd_T84 l1 x7_2).f1) _ _ ((rd_T84 l1 x7_2).f2) false _ ?side1 ?side2 ?side3 ?side4 A51.out).mono ?_
                           (case side1 => repeat (first | exact (Kd.C_below HR268_2.out HB.out) | (with_reducible refine Kd.C_alloc ?_ _) | (with_reducible refine Kd.C_drewN ?_ _) | (with_reducible refine Kd.C_drew ?_)))
                           (case side2 => exact HC268_2.out)
                           (case side3 => repeat (first | exact (Kd.C_below HR269_2.out HB.out) | (with_reducible refine Kd.C_alloc ?_ _) | (with_reducible refine Kd.C_drewN ?_ _) | (with_reducible refine Kd.C_drew ?_)))
                           (case side4 => exact HC269_2.out)
                           rintro e w73 ⟨rfl, hb⟩
                           refine ⟨_, rfl, ?_⟩
                           have n0_ := Aside0.mk (Kd.S_below (by (with_reducible repeat (first | apply Kd.S_alloc | apply Kd.S_drewN | apply Kd.S_drew)); exact HO_5.out) hb)
                           have n1_ := Aside0.mk (below_step (by with_reducible repeat first | exact HB.out | apply below_alloc | apply pw_below_drewN | apply below_drew1) hb)
                           clear HO_5
                           clear HB
                           have HO_5 := n0_
                           have HB := n1_
                           clear n0_ n1_
                           (try clear hb)
                           (try clear hb2)
                           (try clear hk)
                           (try clear hi)
                           refine hK.out _ _ ⟨((HB.out.cell (World.block_lt_of_cell? w _ hw268_0)).trans hw268_0), ((HB.out.cell (World.block_lt_of_cell? w _ hw268_1)).trans hw268_1), ((HB.out.cell (World.block_lt_of_cell? w _ hw268_2)).trans hw268_2), ((HB.out.cell (World.block_lt_of_cell? w _ hw269_0)).trans hw269_0), ((HB.out.cell (World.block_lt_of_cell? w _ hw269_1)).trans hw269_1), ((HB.out.cell (World.block_lt_of_cell? w _ hw269_2)).trans hw269_2)⟩ (fun hHeld => ?_)
                           clear hK K
                           refine norm_ (a' := ?_) ?_ ?_
                           rotate_left
                           ·show Act.put _ (some 63) _ = _
                            simp only [Act.put, sA, sB, sC, i64_w, i32_w]
                            rfl
                           refine done_ (done_of HT_.out (by kernel_rfl)) ?_
                           try go_wp2
                           (try simp only [← hl5_2])
                           go_roundg k2
                           case measure => have := HK1.out; have := HK2.out; omega
                           case rel => exact ⟨(y267), (wrap64 (x7_2 - 1)), (by first | rfl | (simp; done) | (simp [*]; done)), H', ⟨by have := HK1.out; have := HK2.out; omega⟩, ⟨by (try simp only [hl5_2]); (with_reducible repeat (first | apply Kd.S_alloc | apply Kd.S_drewN | apply Kd.S_drew)); exact HO_5.out⟩, ⟨by repeat (first | (with_reducible first | exact HB.out | apply below_alloc | apply pw_below_drewN | apply below_drew1) | exact HB.out)⟩⟩
                         ·rw [if_neg c50] at H
                          exact absurd H (by simp)
                        ·rw [if_neg c49] at H
                         exact absurd H (by simp)
                       ·rw [if_neg c47] at H
                        exact absurd H (by simp)
                      ·rw [if_neg c45] at H
                       exact absurd H (by simp)
                     ·rw [if_neg c44] at H
                      exact absurd H (by simp)
                    ·rw [if_neg c42] at H
                     exact absurd H (by simp)
                   ·rw [if_neg c41] at H
                    exact absurd H (by simp)
                  ·rw [if_neg c40] at H
                   exact absurd H (by simp)
                 ·rw [if_neg c39] at H
                  exact absurd H (by simp)
                ·rw [if_neg c37] at H
                 exact absurd H (by simp)
               ·rw [if_neg c36] at H
                exact absurd H (by simp)
            ·rw [if_neg c19] at H
             have c19b0 : decide (0 ≤ x7_2) = false := decide_eq_false c19
             clear c19
             have H' := Aside0.mk H
             clear H
             go_wp2
             (try simp only [← hl5_2])
             go_roundg k2
             case measure => have := HK1.out; have := HK2.out; omega
             case rel => exact ⟨(x5_2), (wrap64 (x6_1 - 1)), (by first | rfl | (simp; done) | (simp [*]; done)), H', ⟨by have := HK1.out; have := HK2.out; omega⟩, ⟨by (try simp only [hl5_2]); (with_reducible repeat (first | apply Kd.S_alloc | apply Kd.S_drewN | apply Kd.S_drew)); exact HO_5.out⟩, ⟨by repeat (first | (with_reducible first | exact HB.out | apply below_alloc | apply pw_below_drewN | apply below_drew1) | exact HB.out)⟩⟩
         ·rw [if_neg c13] at H
          exact absurd H (by simp)
        ·rw [if_neg c12] at H
         exact absurd H (by simp)
       ·rw [if_neg c11] at H
        exact absurd H (by simp)
      ·rw [if_neg c10] at H
       exact absurd H (by simp)
     ·rw [if_neg c8] at H
      have c8b0 : decide (0 ≤ x6_1) = false := decide_eq_false c8
      clear c8
      obtain rfl := Option.some.inj H
      go_wp2
      go_ret
      exact ⟨_, by first | rfl | (simp [errW_none, errW_some] <;> rfl) | (simp only [← hji3]; first | rfl | (simp [errW_none, errW_some] <;> rfl)) | (simp [*, errW_none, errW_some] <;> rfl), by (with_reducible repeat (first | apply Kd.S_alloc | apply Kd.S_drewN | apply Kd.S_drew)); exact HO_5.out, by repeat (first | (with_reducible first | exact HB.out | apply below_alloc | apply pw_below_drewN | apply below_drew1) | exact HB.out)⟩
  ·rw [if_neg c5] at H
   exact absurd H (by simp)
 ·rw [if_neg c4] at H
  exact absurd H (by simp)
end Go.Proofs.Ytdgemabmmomebaa.PDelta
end
section
namespace Go.Proofs.Ytdgemabmmomebaa.PDelta
open Go.RowKit Go.Proofs.YtdgemabmmomebaaW.PrintWords Go.Proofs.YtdgemabmmomebaaW.PrintLast Go.Proofs.YtdgemabmmomebaaW.PrintMore
theorem rdL_set (t : List (List Int)) (i i' : Nat) (row : List Int) (hi : i < t.length) : rd_L7 (t.set i row) (i' : Int) = if i' = i then row else rd_L7 t (i' : Int) := by
 unfold rd_L7
 rw [Int.toNat_natCast, List.getD_eq_getElem?_getD, List.getD_eq_getElem?_getD, List.getElem?_set]
 by_cases h : i = i'
 ·subst h; simp [hi]
 ·rw [if_neg h, if_neg (fun e => h e.symm)]
theorem rd_set (xs : List Int) (j j' : Nat) (v : Int) (hj : j < xs.length) : rd (xs.set j v) (j' : Int) = if j' = j then v else rd xs (j' : Int) := by
 unfold rd
 rw [Int.toNat_natCast, List.getD_eq_getElem?_getD, List.getD_eq_getElem?_getD, List.getElem?_set]
 by_cases h : j = j'
 ·subst h; simp [hj]
 ·rw [if_neg h, if_neg (fun e => h e.symm)]
def Cell (a b : List S84) (row : List Int) (i j : Nat) : Prop := rd row (j : Int) = (tc (a.drop i) (b.drop j) : Int)
structure TR (a b : List S84) (t : List (List Int)) (n : Nat) : Prop where
 len : t.length = a.length + 1
 row : ∀ i, n ≤ i → i ≤ a.length → (rd_L7 t (i : Int)).length = b.length + 1 ∧ ∀ j, j ≤ b.length → Cell a b (rd_L7 t (i : Int)) i j
structure TI (a b : List S84) (t : List (List Int)) (i m : Nat) : Prop where
 above : TR a b t (i + 1)
 le : i ≤ a.length
 wide : (rd_L7 t (i : Int)).length = b.length + 1
 cells : ∀ j, m ≤ j → j ≤ b.length → Cell a b (rd_L7 t (i : Int)) i j
theorem TI.any {a b : List S84} {t : List (List Int)} {i j : Nat} (h : TI a b t i (j + 1)) (hj : j ≤ b.length) (v : Int) : TI a b (t.set i ((rd_L7 t (i : Int)).set j v)) i (j + 1) := by
 have hit : i < t.length := by rw [h.above.len]; have := h.le; omega
 refine ⟨⟨by rw [List.length_set]; exact h.above.len, fun i' h1 h2 => ?_⟩, h.le, ?_, fun j' h1 h2 => ?_⟩
 ·rw [rdL_set _ _ _ _ hit, if_neg (by omega)]; exact h.above.row i' h1 h2
 ·rw [rdL_set _ _ _ _ hit, if_pos rfl, List.length_set]; exact h.wide
 ·rw [rdL_set _ _ _ _ hit, if_pos rfl]
  unfold Cell
  rw [rd_set _ _ _ _ (by rw [h.wide]; omega), if_neg (by omega)]
  exact h.cells j' h1 h2
theorem TI.put {a b : List S84} {t : List (List Int)} {i j : Nat} (h : TI a b t i (j + 1)) (hj : j ≤ b.length) {v : Int} (hv : v = (tc (a.drop i) (b.drop j) : Int)) : TI a b (t.set i ((rd_L7 t (i : Int)).set j v)) i j := by
 have hit : i < t.length := by rw [h.above.len]; have := h.le; omega
 have h' := h.any hj v
 refine ⟨h'.above, h'.le, h'.wide, fun j' h1 h2 => ?_⟩
 by_cases e : j' = j
 ·subst e
  rw [rdL_set _ _ _ _ hit, if_pos rfl]
  unfold Cell
  rw [rd_set _ _ _ _ (by rw [h.wide]; omega), if_pos rfl, hv]
 ·exact h'.cells j' (by omega) h2
theorem mn_nat (x y : Nat) : mn (x : Int) (y : Int) = ((min x y : Nat) : Int) := by unfold mn; split <;> omega
theorem price_ev (x y : S84) (hs : x.f2.length ≤ 1099511627776) : Ev (fun k => diff_price.f k x.f0 x.f1 x.f2 y.f0 y.f1 y.f2) (prc x y : Int) := by
 obtain ⟨r, er, hr⟩ := asame_ev x.f2 y.f2 hs
 refine Ev.bind er ?_
 unfold prc
 by_cases h : x.f2 = y.f2
 ·rw [hr.2 h, if_pos h]; exact Ev.congr (fun k => by rw [if_pos rfl]; rfl) (Ev.now _)
 ·rw [if_neg h]; exact Ev.congr (fun k => by rw [if_neg (fun e => h (hr.1 e))]; rfl) (Ev.now _)
theorem alike_is (x y : S84) : diff_alike.f x.f0 x.f1 x.f2 y.f0 y.f1 y.f2 = some (decide (Alk x y)) := by
 unfold diff_alike.f
 by_cases h : x.f0 = y.f0
 ·rw [if_pos h]
  by_cases h2 : x.f1 = y.f1
  ·rw [decide_eq_true (show Alk x y from ⟨h, h2⟩), beq_iff_eq.mpr h2]
  ·rw [decide_eq_false (fun e : Alk x y => h2 e.2), beq_eq_false_iff_ne.mpr h2]
 ·rw [if_neg h, decide_eq_false (fun e : Alk x y => h e.1)]
theorem table_l1 (a b : List S84) (ha : a.length ≤ 1048576) (hb : b.length ≤ 1048576) (hs : ∀ x ∈ a, x.f2.length ≤ 1099511627776) (i : Nat) (H : ∀ t, TR a b t i → ∃ r, Ev (fun k => diff_table.l0 k a b t ((i : Int) - 1)) r ∧ TR a b r 0) :
  ∀ (m : Nat) (t : List (List Int)), m ≤ b.length + 1 → TI a b t i m → ∃ r, Ev (fun k => diff_table.l1 k a b t (i : Int) ((m : Int) - 1)) r ∧ TR a b r 0 := by
 intro m
 induction m with
 | zero =>
  intro t _ h
  obtain ⟨r, er, hr⟩ := H t ⟨h.above.len, fun i' h1 h2 => by
   by_cases e : i' = i
   ·subst e; exact ⟨h.wide, fun j hj => h.cells j (Nat.zero_le _) hj⟩
   ·exact h.above.row i' (by omega) h2⟩
  refine ⟨r, Ev.step (fun k => ?_) er, hr⟩
  have wi : wrap64 ((i : Int) - 1) = (i : Int) - 1 := w64 (by omega) (by have := h.le; omega)
  simp only [diff_table.l1]
  rw [if_neg (by omega), wi]
 | succ j ih =>
  intro t hj h
  have hjb : j ≤ b.length := by omega
  have hia := h.le
  have hlen := h.above.len
  have hwide := h.wide
  have e0 : ((j + 1 : Nat) : Int) - 1 = (j : Int) := by omega
  have wj : wrap64 ((j : Int) - 1) = (j : Int) - 1 := w64 (by omega) (by omega)
  rw [e0]
  by_cases ci : i = a.length
  ·have hv : wrap64 ((b.length : Int) - (j : Int)) = (tc (a.drop i) (b.drop j) : Int) := by
    rw [List.drop_eq_nil_of_le (by omega), tc_nil, List.length_drop, w64 (by omega) (by omega)]; omega
   obtain ⟨r, er, hr⟩ := ih _ (by omega) (h.put hjb hv)
   refine ⟨r, Ev.step (fun k => ?_) er, hr⟩
   simp only [diff_table.l1]
   rw [if_pos (by omega), if_pos (by omega), if_pos (by omega), if_pos (by omega), if_pos (by omega), if_pos (by omega), wj]
   rfl
  ·by_cases cj : j = b.length
   ·have hv : wrap64 ((a.length : Int) - (i : Int)) = (tc (a.drop i) (b.drop j) : Int) := by
     rw [show b.drop j = [] from List.drop_eq_nil_of_le (by omega), tc_nil', List.length_drop, w64 (by omega) (by omega)]; omega
    obtain ⟨r, er, hr⟩ := ih _ (by omega) (h.put hjb hv)
    refine ⟨r, Ev.step (fun k => ?_) er, hr⟩
    simp only [diff_table.l1]
    rw [if_pos (by omega), if_neg (by omega), if_pos (by omega), if_pos (by omega), if_pos (by omega), if_pos (by omega), if_pos (by omega), wj]
    rfl
   ·have wi1 : wrap64 ((i : Int) + 1) = ((i + 1 : Nat) : Int) := by rw [w64 (by omega) (by omega)]; omega
    have wj1 : wrap64 ((j : Int) + 1) = ((j + 1 : Nat) : Int) := by rw [w64 (by omega) (by omega)]; omega
    obtain ⟨w1, r1⟩ := h.above.row (i + 1) (Nat.le_refl _) (by omega)
    have c1 := r1 j hjb
    have c2 := h.cells (j + 1) (Nat.le_refl _) (by omega)
    have c3 := r1 (j + 1) (by omega)
    unfold Cell at c1 c2 c3
    have da := drop_T84 a i (by omega)
    have db := drop_T84 b j (by omega)
    obtain ⟨x, hx⟩ : ∃ x, x = rd_T84 a (i : Int) := ⟨_, rfl⟩
    obtain ⟨y, hy⟩ : ∃ y, y = rd_T84 b (j : Int) := ⟨_, rfl⟩
    rw [← hx] at da
    rw [← hy] at db
    have b1 := tc_le _ (a.drop (i + 1)) (b.drop j) (Nat.le_refl _)
    have b2 := tc_le _ (a.drop i) (b.drop (j + 1)) (Nat.le_refl _)
    have b3 := tc_le _ (a.drop (i + 1)) (b.drop (j + 1)) (Nat.le_refl _)
    simp only [List.length_drop] at b1 b2 b3
    have hv1 : wrap64 (1 + mn (rd (rd_L7 t ((i + 1 : Nat) : Int)) (j : Int)) (rd (rd_L7 t (i : Int)) ((j + 1 : Nat) : Int))) = ((1 + min (tc (a.drop (i + 1)) (b.drop j)) (tc (a.drop i) (b.drop (j + 1))) : Nat) : Int) := by
     rw [c1, c2, mn_nat, w64 (by omega) (by omega)]; omega
    have hm := tc_cons x (a.drop (i + 1)) y (b.drop (j + 1))
    rw [← da, ← db] at hm
    obtain ⟨v1, hv1'⟩ : ∃ v : Int, v = wrap64 (1 + mn (rd (rd_L7 t ((i + 1 : Nat) : Int)) (j : Int)) (rd (rd_L7 t (i : Int)) ((j + 1 : Nat) : Int))) := ⟨_, rfl⟩
    rw [← hv1'] at hv1
    have hit : i < t.length := by omega
    by_cases ck : Alk x y
    ·rw [if_pos ck] at hm
     have h1 := h.any hjb v1
     have e1 : rd_L7 (t.set i ((rd_L7 t (i : Int)).set j v1)) (i : Int) = (rd_L7 t (i : Int)).set j v1 := by rw [rdL_set _ _ _ _ hit, if_pos rfl]
     have e2 : rd_L7 (t.set i ((rd_L7 t (i : Int)).set j v1)) ((i + 1 : Nat) : Int) = rd_L7 t ((i + 1 : Nat) : Int) := by rw [rdL_set _ _ _ _ hit, if_neg (by omega)]
     have e3 : rd ((rd_L7 t (i : Int)).set j v1) (j : Int) = v1 := by rw [rd_set _ _ _ _ (by omega), if_pos rfl]
     have hp1 : prc x y ≤ 1 := by unfold prc; split <;> omega
     have hv2 : mn v1 (wrap64 ((tc (a.drop (i + 1)) (b.drop (j + 1)) : Int) + (prc x y : Int))) = (tc (a.drop i) (b.drop j) : Int) := by
      rw [w64 (by omega) (by omega), hv1, show ((tc (a.drop (i + 1)) (b.drop (j + 1)) : Int) + (prc x y : Int)) = ((tc (a.drop (i + 1)) (b.drop (j + 1)) + prc x y : Nat) : Int) by omega, mn_nat, hm]
     obtain ⟨r, er, hr⟩ := ih _ (by omega) (h1.put hjb hv2)
     have hxm : x ∈ a := List.mem_of_mem_drop (i := i) (by rw [da]; exact List.mem_cons_self)
     let f : Nat → Int → Option (List (List Int)) := fun k p => diff_table.l1 k a b ((t.set i ((rd_L7 t (i : Int)).set j v1)).set i ((rd_L7 (t.set i ((rd_L7 t (i : Int)).set j v1)) (i : Int)).set j (mn v1 (wrap64 ((tc (a.drop (i + 1)) (b.drop (j + 1)) : Int) + p))))) (i : Int) ((j : Int) - 1)
     refine ⟨r, Ev.step (fun k => ?_) (Ev.bind (f := f) (price_ev x y (hs x hxm)) er), hr⟩
     simp only [diff_table.l1]
     rw [if_pos (by omega), if_neg (by omega), if_neg (by omega), if_pos (by omega), if_pos (by omega), wi1, if_pos (by omega), if_pos (by omega), if_pos (by omega), if_pos (by omega), wj1, if_pos (by omega), if_pos (by omega), if_pos (by omega), Option.bind_some, if_pos (by omega), if_pos (by omega), ← hx, ← hy, alike_is, decide_eq_true ck, Option.bind_some, if_pos rfl, Int.toNat_natCast, Int.toNat_natCast, ← hv1', e1, e2, if_pos (by rw [List.length_set]; omega), if_pos (by omega), e3, c3, wj]
     simp only [f, e1]
    ·rw [if_neg ck] at hm
     obtain ⟨r, er, hr⟩ := ih _ (by omega) (h.put hjb (v := v1) (by rw [hv1, hm]))
     refine ⟨r, Ev.step (fun k => ?_) er, hr⟩
     simp only [diff_table.l1]
     rw [if_pos (by omega), if_neg (by omega), if_neg (by omega), if_pos (by omega), if_pos (by omega), wi1, if_pos (by omega), if_pos (by omega), if_pos (by omega), if_pos (by omega), wj1, if_pos (by omega), if_pos (by omega), if_pos (by omega), Option.bind_some, if_pos (by omega), if_pos (by omega), ← hx, ← hy, alike_is, decide_eq_false ck, Option.bind_some, if_neg (by decide), Int.toNat_natCast, Int.toNat_natCast, ← hv1', wj]
theorem table_l0 (a b : List S84) (ha : a.length ≤ 1048576) (hb : b.length ≤ 1048576) (hs : ∀ x ∈ a, x.f2.length ≤ 1099511627776) : ∀ (n : Nat) (t : List (List Int)), n ≤ a.length + 1 → TR a b t n → ∃ r, Ev (fun k => diff_table.l0 k a b t ((n : Int) - 1)) r ∧ TR a b r 0 := by
 intro n
 induction n with
 | zero =>
  intro t _ h
  refine ⟨t, Ev.step (f := fun _ => some t) (fun k => ?_) (Ev.now _), h⟩
  simp only [diff_table.l0]
  rw [if_neg (by omega)]
 | succ i ih =>
  intro t hi h
  have hlen := h.len
  have e0 : ((i + 1 : Nat) : Int) - 1 = (i : Int) := by omega
  have wb : wrap64 ((b.length : Int) + 1) = ((b.length + 1 : Nat) : Int) := by rw [w64 (by omega) (by omega)]; omega
  have hit : i < t.length := by omega
  rw [e0]
  have hTI : TI a b (t.set i (List.replicate (b.length + 1) 0)) i (b.length + 1) := by
   refine ⟨⟨by rw [List.length_set]; exact hlen, fun i' h1 h2 => ?_⟩, by omega, ?_, fun j h1 h2 => by omega⟩
   ·rw [rdL_set _ _ _ _ hit, if_neg (by omega)]; exact h.row i' h1 h2
   ·rw [rdL_set _ _ _ _ hit, if_pos rfl, List.length_replicate]
  obtain ⟨r, er, hr⟩ := table_l1 a b ha hb hs i (fun t' h' => ih t' (by omega) h') (b.length + 1) _ (Nat.le_refl _) hTI
  rw [show ((b.length + 1 : Nat) : Int) - 1 = (b.length : Int) by omega] at er
  refine ⟨r, Ev.step (fun k => ?_) er, hr⟩
  simp only [diff_table.l0]
  rw [if_pos (by omega), wb, if_pos (by omega), if_pos (by omega), if_pos (by omega), if_pos (by omega), Int.toNat_natCast, Int.toNat_natCast]
theorem table_ev (a b : List S84) (ha : a.length ≤ 1048576) (hb : b.length ≤ 1048576) (hs : ∀ x ∈ a, x.f2.length ≤ 1099511627776) : ∃ r, Ev (fun k => diff_table.f k a b) r ∧ TR a b r 0 := by
 have wa : wrap64 ((a.length : Int) + 1) = ((a.length + 1 : Nat) : Int) := by rw [w64 (by omega) (by omega)]; omega
 obtain ⟨r, er, hr⟩ := table_l0 a b ha hb hs (a.length + 1) (List.replicate (a.length + 1) []) (Nat.le_refl _) ⟨by rw [List.length_replicate], fun i h1 h2 => by omega⟩
 rw [show ((a.length + 1 : Nat) : Int) - 1 = (a.length : Int) by omega] at er
 refine ⟨r, Ev.congr (fun k => ?_) er, hr⟩
 unfold diff_table.f
 rw [wa, if_pos (by omega), if_pos (by omega), Int.toNat_natCast]
end Go.Proofs.Ytdgemabmmomebaa.PDelta
end
section
namespace Go.Proofs.Ytdgemabmmomebaa.PDelta
open Go.RowKit Go.Proofs.YtdgemabmmomebaaW.PrintWords Go.Proofs.YtdgemabmmomebaaW.PrintLast Go.Proofs.YtdgemabmmomebaaW.PrintMore
attribute [local go_sem] max2_int min2_int max_two min_two max_three min_three max_four min_four
attribute [local go_sem high] Go.Proofs.Ytdgemabmmomebaa.Ord.leq_str Go.Proofs.Ytdgemabmmomebaa.Ord.gtr_str Go.Proofs.Ytdgemabmmomebaa.Ord.geq_str
def diff_Cost.l0 : Nat → Int → List (S70) → Int → Int → Option (Int × Int)
 | 0, _, _, _, _ => none
 | k + 1, x5, x13, x14, x15 => if x15 < x14 then (if 0 ≤ x15 then (if x15 < (x13.length : Int) then (if ((rd_T70 x13 x15).f0) = 1 then (diff_Cost.l0 k (wrap64 (x5 + (((rd_T70 x13 x15).f3).length : Int))) x13 x14 (wrap64 (x15 + 1))) else (if ((rd_T70 x13 x15).f0) = 2 then (diff_Cost.l0 k (wrap64 (x5 + ((rd_T70 x13 x15).f1))) x13 x14 (wrap64 (x15 + 1))) else (if (((rd_T70 x13 x15).f2).length : Int) > 0 then (diff_Cost.l0 k (wrap64 (x5 + ((rd_T70 x13 x15).f1))) x13 x14 (wrap64 (x15 + 1))) else (diff_Cost.l0 k x5 x13 x14 (wrap64 (x15 + 1)))))) else (none)) else (none)) else (some (x5, 0))
def diff_Cost.f (k : Nat) (l0 : List (S70)) : Option (Int × Int) := (delta_Check.f k l0).bind fun t312 => (if t312 = 0 then (diff_Cost.l0 k 0 l0 (l0.length : Int) 0) else (some (0, t312)))
set_option maxHeartbeats 8000000 in
set_option maxRecDepth 100000 in
theorem diff_Cost.calls (k : Nat) (A0 : Option Addr) (c0 : Nat) (l0 : List (S70)) (r1 : Int) (r2 : Int) (w : World) (hr0 : Kd.C k70 w A0 l0.length l0) (hc0 : l0.length ≤ c0) (h : diff_Cost.f k l0 = some (r1, r2)) :
  Calls Try.prog 57 #[.slice A0 l0.length c0] w fun e w' => e = .returned (.tuple #[.int .i64 r1, .int .i64 r2]) ∧ Below w.heap.size w w' := by
 have hu70 := Try.underlying70
 have HR0 := Aside0.mk hr0
 have HC0 := Aside0.mk hc0
 clear hr0 hc0
 have HB := Aside0.mk (Below.refl w.heap.size w)
 have H : ((delta_Check.f k l0).bind fun t312 => (if t312 = 0 then (diff_Cost.l0 k 0 l0 (l0.length : Int) 0) else (some (0, t312)))) = some (r1, r2) := h
 clear h
 replace H := Option.bind_eq_some_iff.mp H
 obtain ⟨t312, A20, H⟩ := H
 replace H : (if t312 = 0 then (diff_Cost.l0 k 0 l0 (l0.length : Int) 0) else (some (0, t312))) = some (r1, r2) := H
 have A2 := Aside0.mk A20
 clear A20
 by_cases c3 : t312 = 0
 ·rw [if_pos c3] at H
  have c3b0 : (t312 == 0) = true := beq_iff_eq.mpr c3
  have c3b1 : (t312 != 0) = false := bne_eq_false_iff_eq.mpr c3
  clear c3
  have H' := Aside0.mk H
  clear H
  go_enter Try.func57, Try.ntmps57
  go_wp2_with (first | ((with_reducible refine gate_callee (f := 93) rfl ?_); refine goesL_ (some 9) rfl rfl Try.func93 (by kernel_rfl) rfl #[.slice A0 l0.length c0] rfl (by (try simp only [List.map_toArray, List.map_cons, List.map_nil]); first | done | rfl | (simp only [List.length_drop, List.length_take]; rfl)) ?_; (with_reducible refine (delta_Check.calls k _ _ l0 t312 _ ?side1 ?side2 A2.out).mono ?_); (case side1 => repeat (first | exact HR0.out | (with_reducible refine Kd.C_alloc ?_ _) | (with_reducible refine Kd.C_drewN ?_ _) | (with_reducible refine Kd.C_drew ?_))); (case side2 => exact HC0.out); rintro e w4 ⟨rfl, hb⟩; refine ⟨_, rfl, ?_⟩; replace HB := Aside0.mk (below_step (by with_reducible repeat first | exact HB.out | apply below_alloc | apply pw_below_drewN | apply below_drew1) hb); (try clear hb); (try clear hb2); (try clear hk); (try clear hi)))
  go_loopg [5, 15] k (fun kq v5 v15 w' => ∃ (x5_1 : Int) (x15_1 : Int), v5 = .int .i64 x5_1 ∧ v15 = .int .i64 x15_1 ∧ Aside0 (diff_Cost.l0 kq x5_1 l0 (l0.length : Int) x15_1 = some (r1, r2)) ∧ Aside0 (kq ≤ k) ∧ Aside0 (Below w.heap.size w w'))
  case atStart => exact ⟨(0), (0), (by first | rfl | (simp; done) | (simp [*]; done)), (by first | rfl | (simp; done) | (simp [*]; done)), H', ⟨Nat.le_refl _⟩, ⟨by repeat (first | (with_reducible first | exact HB.out | apply below_alloc | apply pw_below_drewN | apply below_drew1) | exact HB.out)⟩⟩
  case round =>
   clear H'
   try clear p2
   try clear c3
   try clear c3b0
   try clear c3b1
   obtain ⟨x5_1, x15_1, rfl, rfl, HA, HK1, HB⟩ := hrel
   cases gk with
   | zero => exact absurd HA.out (by simp [diff_Cost.l0])
   | succ k1 =>
    have H := HA.out
    clear HA
    simp only [diff_Cost.l0] at H
    by_cases c5 : x15_1 < (l0.length : Int)
    ·rw [if_pos c5] at H
     have c5b0 : decide (x15_1 < (l0.length : Int)) = true := decide_eq_true c5
     clear c5
     by_cases c6 : 0 ≤ x15_1
     ·rw [if_pos c6] at H
      have c6b0 : decide (0 ≤ x15_1) = true := decide_eq_true c6
      clear c6
      by_cases c7 : x15_1 < (l0.length : Int)
      ·rw [if_pos c7] at H
       have c7b0 : decide (x15_1 < (l0.length : Int)) = true := decide_eq_true c7
       clear c7
       by_cases c8 : ((rd_T70 l0 x15_1).f0) = 1
       ·rw [if_pos c8] at H
        have c8b0 : (((rd_T70 l0 x15_1).f0) == 1) = true := beq_iff_eq.mpr c8
        have c8b1 : (((rd_T70 l0 x15_1).f0) != 1) = false := bne_eq_false_iff_eq.mpr c8
        clear c8
        have H' := Aside0.mk H
        clear H
        have p313 : 0 ≤ (x15_1 : Int) := of_decide_eq_true (by assumption)
        have q313 : x15_1 < (l0.length : Int) := of_decide_eq_true (by assumption)
        obtain ⟨ad313, A313_2, c313_2, A313_3, c313_3, e313, hx313_0, hx313_1, hx313_2, hx313_3, hl313_2, hi313_2, hl313_3, hi313_3⟩ := at_T70 HR0.out x15_1 p313 q313
        cases e313
        replace hx313_0 := (HB.out.cell (World.block_lt_of_cell? w _ hx313_0)).trans hx313_0
        replace hx313_1 := (HB.out.cell (World.block_lt_of_cell? w _ hx313_1)).trans hx313_1
        replace hx313_2 := (HB.out.cell (World.block_lt_of_cell? w _ hx313_2)).trans hx313_2
        replace hx313_3 := (HB.out.cell (World.block_lt_of_cell? w _ hx313_3)).trans hx313_3
        have HR313_2 := Aside0.mk hi313_2
        have HC313_2 := Aside0.mk hl313_2
        clear hi313_2 hl313_2
        have HR313_3 := Aside0.mk hi313_3
        have HC313_3 := Aside0.mk hl313_3
        clear hi313_3 hl313_3
        replace p313 := eq_true p313
        replace q313 := eq_true q313
        go_wp2_with (first | ((with_reducible refine gate_dst (N := 7) rfl ?_); (try (refine gate_guard (by rfl) ?_; dsimp only)); refine box_event ?hg (N := 7) ?hd (cs := #[.int .i64 0, .int .i64 0, .slice none 0 0, .slice none 0 0]) (t := 70) ?hr ?_; (case hd => rfl); (case hg => rfl); (case hr => first | (go_simp; done) | (go_simp; rfl)); intro gb314 hg w9 hbox hb; have n0_ := Aside0.mk (below_step (by with_reducible repeat first | exact HB.out | apply below_alloc | apply pw_below_drewN | apply below_drew1) hb); have n1_ := Aside0.mk (hbox); have n2_ := Aside0.mk ((by rw [hg]; exact (below_size (by with_reducible repeat first | exact HB.out | apply below_alloc | apply pw_below_drewN | apply below_drew1)) : w.heap.size ≤ gb314)); have n3_ := Aside0.mk ((by rw [hg]; exact (below_size (by with_reducible repeat first | exact HB.out | apply below_alloc | apply pw_below_drewN | apply below_drew1)) : w.heap.size ≤ gb314)); clear HB; have HB := n0_; have BK314 := n1_; have GW314 := n2_; have GE314 := n3_; clear n0_ n1_ n2_ n3_; clear hb hbox hg; have hcz10_0 : w9.cell? ⟨gb314, 0, none⟩ = some (.int .i64 0) := (blk_cell BK314.out 0).trans rfl; have hcz10_1 : w9.cell? ⟨gb314, 1, none⟩ = some (.int .i64 0) := (blk_cell BK314.out 1).trans rfl; have hcz10_2 : w9.cell? ⟨gb314, 2, none⟩ = some (.slice none 0 0) := (blk_cell BK314.out 2).trans rfl; have hcz10_3 : w9.cell? ⟨gb314, 3, none⟩ = some (.slice none 0 0) := (blk_cell BK314.out 3).trans rfl; have hfz10_0 := blk_frozen BK314.out 0; have hfz10_1 := blk_frozen BK314.out 1; have hfz10_2 := blk_frozen BK314.out 2; have hfz10_3 := blk_frozen BK314.out 3))
        go_roundg k1
        case measure => have := HK1.out; omega
        case rel => exact ⟨(wrap64 (x5_1 + (((rd_T70 l0 x15_1).f3).length : Int))), (wrap64 (x15_1 + 1)), (by first | rfl | (simp; done) | (simp [*]; done)), (by first | rfl | (simp; done) | (simp [*]; done)), H', ⟨by have := HK1.out; omega⟩, ⟨by repeat (first | (with_reducible first | exact HB.out | apply below_alloc | apply pw_below_drewN | apply below_drew1 | refine below_set ?_ GE314.out) | exact HB.out)⟩⟩
       ·rw [if_neg c8] at H
        have c8b0 : (((rd_T70 l0 x15_1).f0) == 1) = false := beq_eq_false_iff_ne.mpr c8
        have c8b1 : (((rd_T70 l0 x15_1).f0) != 1) = true := bne_iff_ne.mpr c8
        by_cases c11 : ((rd_T70 l0 x15_1).f0) = 2
        ·rw [if_pos c11] at H
         have c11b0 : (((rd_T70 l0 x15_1).f0) == 2) = true := beq_iff_eq.mpr c11
         have c11b1 : (((rd_T70 l0 x15_1).f0) != 2) = false := bne_eq_false_iff_eq.mpr c11
         clear c11
         have H' := Aside0.mk H
         clear H
         have p313 : 0 ≤ (x15_1 : Int) := of_decide_eq_true (by assumption)
         have q313 : x15_1 < (l0.length : Int) := of_decide_eq_true (by assumption)
         obtain ⟨ad313, A313_2, c313_2, A313_3, c313_3, e313, hx313_0, hx313_1, hx313_2, hx313_3, hl313_2, hi313_2, hl313_3, hi313_3⟩ := at_T70 HR0.out x15_1 p313 q313
         cases e313
         replace hx313_0 := (HB.out.cell (World.block_lt_of_cell? w _ hx313_0)).trans hx313_0
         replace hx313_1 := (HB.out.cell (World.block_lt_of_cell? w _ hx313_1)).trans hx313_1
         replace hx313_2 := (HB.out.cell (World.block_lt_of_cell? w _ hx313_2)).trans hx313_2
         replace hx313_3 := (HB.out.cell (World.block_lt_of_cell? w _ hx313_3)).trans hx313_3
         have HR313_2 := Aside0.mk hi313_2
         have HC313_2 := Aside0.mk hl313_2
         clear hi313_2 hl313_2
         have HR313_3 := Aside0.mk hi313_3
         have HC313_3 := Aside0.mk hl313_3
         clear hi313_3 hl313_3
         replace p313 := eq_true p313
         replace q313 := eq_true q313
         go_wp2_with (first | ((with_reducible refine gate_dst (N := 7) rfl ?_); (try (refine gate_guard (by rfl) ?_; dsimp only)); refine box_event ?hg (N := 7) ?hd (cs := #[.int .i64 0, .int .i64 0, .slice none 0 0, .slice none 0 0]) (t := 70) ?hr ?_; (case hd => rfl); (case hg => rfl); (case hr => first | (go_simp; done) | (go_simp; rfl)); intro gb314 hg w12 hbox hb; have n0_ := Aside0.mk (below_step (by with_reducible repeat first | exact HB.out | apply below_alloc | apply pw_below_drewN | apply below_drew1) hb); have n1_ := Aside0.mk (hbox); have n2_ := Aside0.mk ((by rw [hg]; exact (below_size (by with_reducible repeat first | exact HB.out | apply below_alloc | apply pw_below_drewN | apply below_drew1)) : w.heap.size ≤ gb314)); have n3_ := Aside0.mk ((by rw [hg]; exact (below_size (by with_reducible repeat first | exact HB.out | apply below_alloc | apply pw_below_drewN | apply below_drew1)) : w.heap.size ≤ gb314)); clear HB; have HB := n0_; have BK314 := n1_; have GW314 := n2_; have GE314 := n3_; clear n0_ n1_ n2_ n3_; clear hb hbox hg; have hcz13_0 : w12.cell? ⟨gb314, 0, none⟩ = some (.int .i64 0) := (blk_cell BK314.out 0).trans rfl; have hcz13_1 : w12.cell? ⟨gb314, 1, none⟩ = some (.int .i64 0) := (blk_cell BK314.out 1).trans rfl; have hcz13_2 : w12.cell? ⟨gb314, 2, none⟩ = some (.slice none 0 0) := (blk_cell BK314.out 2).trans rfl; have hcz13_3 : w12.cell? ⟨gb314, 3, none⟩ = some (.slice none 0 0) := (blk_cell BK314.out 3).trans rfl; have hfz13_0 := blk_frozen BK314.out 0; have hfz13_1 := blk_frozen BK314.out 1; have hfz13_2 := blk_frozen BK314.out 2; have hfz13_3 := blk_frozen BK314.out 3))
         go_roundg k1
         case measure => have := HK1.out; omega
         case rel => exact ⟨(wrap64 (x5_1 + ((rd_T70 l0 x15_1).f1))), (wrap64 (x15_1 + 1)), (by first | rfl | (simp; done) | (simp [*]; done)), (by first | rfl | (simp; done) | (simp [*]; done)), H', ⟨by have := HK1.out; omega⟩, ⟨by repeat (first | (with_reducible first | exact HB.out | apply below_alloc | apply pw_below_drewN | apply below_drew1 | refine below_set ?_ GE314.out) | exact HB.out)⟩⟩
        ·rw [if_neg c11] at H
         have c11b0 : (((rd_T70 l0 x15_1).f0) == 2) = false := beq_eq_false_iff_ne.mpr c11
         have c11b1 : (((rd_T70 l0 x15_1).f0) != 2) = true := bne_iff_ne.mpr c11
         by_cases c14 : (((rd_T70 l0 x15_1).f2).length : Int) > 0
         ·rw [if_pos c14] at H
          have c14b0 : decide (0 < (((rd_T70 l0 x15_1).f2).length : Int)) = true := decide_eq_true c14
          have c14b1 : decide (0 < ((rd_T70 l0 x15_1).f2).length) = true := decide_eq_true (by omega)
          clear c14
          have H' := Aside0.mk H
          clear H
          have p313 : 0 ≤ (x15_1 : Int) := of_decide_eq_true (by assumption)
          have q313 : x15_1 < (l0.length : Int) := of_decide_eq_true (by assumption)
          obtain ⟨ad313, A313_2, c313_2, A313_3, c313_3, e313, hx313_0, hx313_1, hx313_2, hx313_3, hl313_2, hi313_2, hl313_3, hi313_3⟩ := at_T70 HR0.out x15_1 p313 q313
          cases e313
          replace hx313_0 := (HB.out.cell (World.block_lt_of_cell? w _ hx313_0)).trans hx313_0
          replace hx313_1 := (HB.out.cell (World.block_lt_of_cell? w _ hx313_1)).trans hx313_1
          replace hx313_2 := (HB.out.cell (World.block_lt_of_cell? w _ hx313_2)).trans hx313_2
          replace hx313_3 := (HB.out.cell (World.block_lt_of_cell? w _ hx313_3)).trans hx313_3
          have HR313_2 := Aside0.mk hi313_2
          have HC313_2 := Aside0.mk hl313_2
          clear hi313_2 hl313_2
          have HR313_3 := Aside0.mk hi313_3
          have HC313_3 := Aside0.mk hl313_3
          clear hi313_3 hl313_3
          replace p313 := eq_true p313
          replace q313 := eq_true q313
          go_wp2_with (first | ((with_reducible refine gate_dst (N := 7) rfl ?_); (try (refine gate_guard (by rfl) ?_; dsimp only)); refine box_event ?hg (N := 7) ?hd (cs := #[.int .i64 0, .int .i64 0, .slice none 0 0, .slice none 0 0]) (t := 70) ?hr ?_; (case hd => rfl); (case hg => rfl); (case hr => first | (go_simp; done) | (go_simp; rfl)); intro gb314 hg w15 hbox hb; have n0_ := Aside0.mk (below_step (by with_reducible repeat first | exact HB.out | apply below_alloc | apply pw_below_drewN | apply below_drew1) hb); have n1_ := Aside0.mk (hbox); have n2_ := Aside0.mk ((by rw [hg]; exact (below_size (by with_reducible repeat first | exact HB.out | apply below_alloc | apply pw_below_drewN | apply below_drew1)) : w.heap.size ≤ gb314)); have n3_ := Aside0.mk ((by rw [hg]; exact (below_size (by with_reducible repeat first | exact HB.out | apply below_alloc | apply pw_below_drewN | apply below_drew1)) : w.heap.size ≤ gb314)); clear HB; have HB := n0_; have BK314 := n1_; have GW314 := n2_; have GE314 := n3_; clear n0_ n1_ n2_ n3_; clear hb hbox hg; have hcz16_0 : w15.cell? ⟨gb314, 0, none⟩ = some (.int .i64 0) := (blk_cell BK314.out 0).trans rfl; have hcz16_1 : w15.cell? ⟨gb314, 1, none⟩ = some (.int .i64 0) := (blk_cell BK314.out 1).trans rfl; have hcz16_2 : w15.cell? ⟨gb314, 2, none⟩ = some (.slice none 0 0) := (blk_cell BK314.out 2).trans rfl; have hcz16_3 : w15.cell? ⟨gb314, 3, none⟩ = some (.slice none 0 0) := (blk_cell BK314.out 3).trans rfl; have hfz16_0 := blk_frozen BK314.out 0; have hfz16_1 := blk_frozen BK314.out 1; have hfz16_2 := blk_frozen BK314.out 2; have hfz16_3 := blk_frozen BK314.out 3))
          go_roundg k1
          case measure => have := HK1.out; omega
          case rel => exact ⟨(wrap64 (x5_1 + ((rd_T70 l0 x15_1).f1))), (wrap64 (x15_1 + 1)), (by first | rfl | (simp; done) | (simp [*]; done)), (by first | rfl | (simp; done) | (simp [*]; done)), H', ⟨by have := HK1.out; omega⟩, ⟨by repeat (first | (with_reducible first | exact HB.out | apply below_alloc | apply pw_below_drewN | apply below_drew1 | refine below_set ?_ GE314.out) | exact HB.out)⟩⟩
         ·rw [if_neg c14] at H
          have c14b0 : decide (0 < (((rd_T70 l0 x15_1).f2).length : Int)) = false := decide_eq_false c14
          have c14b1 : decide (0 < ((rd_T70 l0 x15_1).f2).length) = false := decide_eq_false (by omega)
          clear c14
          have H' := Aside0.mk H
          clear H
          have p313 : 0 ≤ (x15_1 : Int) := of_decide_eq_true (by assumption)
          have q313 : x15_1 < (l0.length : Int) := of_decide_eq_true (by assumption)
          obtain ⟨ad313, A313_2, c313_2, A313_3, c313_3, e313, hx313_0, hx313_1, hx313_2, hx313_3, hl313_2, hi313_2, hl313_3, hi313_3⟩ := at_T70 HR0.out x15_1 p313 q313
          cases e313
          replace hx313_0 := (HB.out.cell (World.block_lt_of_cell? w _ hx313_0)).trans hx313_0
          replace hx313_1 := (HB.out.cell (World.block_lt_of_cell? w _ hx313_1)).trans hx313_1
          replace hx313_2 := (HB.out.cell (World.block_lt_of_cell? w _ hx313_2)).trans hx313_2
          replace hx313_3 := (HB.out.cell (World.block_lt_of_cell? w _ hx313_3)).trans hx313_3
          have HR313_2 := Aside0.mk hi313_2
          have HC313_2 := Aside0.mk hl313_2
          clear hi313_2 hl313_2
          have HR313_3 := Aside0.mk hi313_3
          have HC313_3 := Aside0.mk hl313_3
          clear hi313_3 hl313_3
          replace p313 := eq_true p313
          replace q313 := eq_true q313
          go_wp2_with (first | ((with_reducible refine gate_dst (N := 7) rfl ?_); (try (refine gate_guard (by rfl) ?_; dsimp only)); refine box_event ?hg (N := 7) ?hd (cs := #[.int .i64 0, .int .i64 0, .slice none 0 0, .slice none 0 0]) (t := 70) ?hr ?_; (case hd => rfl); (case hg => rfl); (case hr => first | (go_simp; done) | (go_simp; rfl)); intro gb314 hg w17 hbox hb; have n0_ := Aside0.mk (below_step (by with_reducible repeat first | exact HB.out | apply below_alloc | apply pw_below_drewN | apply below_drew1) hb); have n1_ := Aside0.mk (hbox); have n2_ := Aside0.mk ((by rw [hg]; exact (below_size (by with_reducible repeat first | exact HB.out | apply below_alloc | apply pw_below_drewN | apply below_drew1)) : w.heap.size ≤ gb314)); have n3_ := Aside0.mk ((by rw [hg]; exact (below_size (by with_reducible repeat first | exact HB.out | apply below_alloc | apply pw_below_drewN | apply below_drew1)) : w.heap.size ≤ gb314)); clear HB; have HB := n0_; have BK314 := n1_; have GW314 := n2_; have GE314 := n3_; clear n0_ n1_ n2_ n3_; clear hb hbox hg; have hcz18_0 : w17.cell? ⟨gb314, 0, none⟩ = some (.int .i64 0) := (blk_cell BK314.out 0).trans rfl; have hcz18_1 : w17.cell? ⟨gb314, 1, none⟩ = some (.int .i64 0) := (blk_cell BK314.out 1).trans rfl; have hcz18_2 : w17.cell? ⟨gb314, 2, none⟩ = some (.slice none 0 0) := (blk_cell BK314.out 2).trans rfl; have hcz18_3 : w17.cell? ⟨gb314, 3, none⟩ = some (.slice none 0 0) := (blk_cell BK314.out 3).trans rfl; have hfz18_0 := blk_frozen BK314.out 0; have hfz18_1 := blk_frozen BK314.out 1; have hfz18_2 := blk_frozen BK314.out 2; have hfz18_3 := blk_frozen BK314.out 3))
          go_roundg k1
          case measure => have := HK1.out; omega
          case rel => exact ⟨(x5_1), (wrap64 (x15_1 + 1)), (by first | rfl | (simp; done) | (simp [*]; done)), (by first | rfl | (simp; done) | (simp [*]; done)), H', ⟨by have := HK1.out; omega⟩, ⟨by repeat (first | (with_reducible first | exact HB.out | apply below_alloc | apply pw_below_drewN | apply below_drew1 | refine below_set ?_ GE314.out) | exact HB.out)⟩⟩
      ·rw [if_neg c7] at H
       exact absurd H (by simp)
     ·rw [if_neg c6] at H
      exact absurd H (by simp)
    ·rw [if_neg c5] at H
     have c5b0 : decide (x15_1 < (l0.length : Int)) = false := decide_eq_false c5
     clear c5
     simp only [Option.some.injEq, Prod.mk.injEq] at H
     obtain ⟨rfl, rfl⟩ := H
     go_wp2
     go_ret2
     exact ⟨by first | rfl | (simp [errW_none, errW_some] <;> rfl) | (simp [*, errW_none, errW_some] <;> rfl), by repeat (first | (with_reducible first | exact HB.out | apply below_alloc | apply pw_below_drewN | apply below_drew1) | exact HB.out)⟩
 ·rw [if_neg c3] at H
  have c3b0 : (t312 == 0) = false := beq_eq_false_iff_ne.mpr c3
  have c3b1 : (t312 != 0) = true := bne_iff_ne.mpr c3
  simp only [Option.some.injEq, Prod.mk.injEq] at H
  obtain ⟨rfl, rfl⟩ := H
  go_enter Try.func57, Try.ntmps57
  go_wp2_with (first | ((with_reducible refine gate_callee (f := 93) rfl ?_); refine goesL_ (some 9) rfl rfl Try.func93 (by kernel_rfl) rfl #[.slice A0 l0.length c0] rfl (by (try simp only [List.map_toArray, List.map_cons, List.map_nil]); first | done | rfl | (simp only [List.length_drop, List.length_take]; rfl)) ?_; (with_reducible refine (delta_Check.calls k _ _ l0 t312 _ ?side1 ?side2 A2.out).mono ?_); (case side1 => repeat (first | exact HR0.out | (with_reducible refine Kd.C_alloc ?_ _) | (with_reducible refine Kd.C_drewN ?_ _) | (with_reducible refine Kd.C_drew ?_))); (case side2 => exact HC0.out); rintro e w19 ⟨rfl, hb⟩; refine ⟨_, rfl, ?_⟩; replace HB := Aside0.mk (below_step (by with_reducible repeat first | exact HB.out | apply below_alloc | apply pw_below_drewN | apply below_drew1) hb); (try clear hb); (try clear hb2); (try clear hk); (try clear hi)))
  go_ret2
  exact ⟨by first | rfl | (simp [errW_none, errW_some] <;> rfl) | (simp [*, errW_none, errW_some] <;> rfl), by repeat (first | (with_reducible first | exact HB.out | apply below_alloc | apply pw_below_drewN | apply below_drew1) | exact HB.out)⟩
end Go.Proofs.Ytdgemabmmomebaa.PDelta
end
section
namespace Go.Proofs.Ytdgemabmmomebaa.PDelta
open Go.RowKit Go.Proofs.YtdgemabmmomebaaW.PrintWords Go.Proofs.YtdgemabmmomebaaW.PrintLast Go.Proofs.YtdgemabmmomebaaW.PrintMore
theorem cost_keeps0 : ∀ n, costU (List.replicate n (.keep [])) = 0
 | 0 => rfl
 | n + 1 => by rw [List.replicate_succ, costU, cost_keeps0 n]
theorem cost_keeps1 (x : S38) (t : List S38) : ∀ n, costU (List.replicate n (.keep (x :: t))) = n
 | 0 => rfl
 | n + 1 => by rw [List.replicate_succ, costU, cost_keeps1 x t n]
theorem cost_cuts : ∀ n, costU (List.replicate n .cut) = n
 | 0 => rfl
 | n + 1 => by rw [List.replicate_succ, costU, cost_cuts n]
theorem cost_adds : ∀ l : List S84, costU (l.map .add) = l.length
 | [] => rfl
 | x :: l => by rw [List.map_cons, costU, cost_adds l]; rfl
theorem cost_le : ∀ u : List Un, costU u ≤ u.length
 | [] => Nat.le_refl _
 | .keep [] :: u => by have := cost_le u; simp only [costU, List.length_cons]; omega
 | .keep (_ :: _) :: u => by have := cost_le u; simp only [costU, List.length_cons]; omega
 | .cut :: u => by have := cost_le u; simp only [costU, List.length_cons]; omega
 | .add _ :: u => by have := cost_le u; simp only [costU, List.length_cons]; omega
theorem cost_us {s : S70} (h : StepOK s) : (costU (us s) : Int) = if s.f0 = 1 then (s.f3.length : Int) else if s.f0 = 2 then s.f1 else if (s.f2.length : Int) > 0 then s.f1 else 0 := by
 rcases h with h | h | h
 ·rw [us_keep h.1, if_neg (by omega), if_neg (by omega)]
  cases hf : s.f2 with
  | nil => rw [cost_keeps0]; simp
  | cons x t => rw [cost_keeps1, if_pos (by simp only [List.length_cons]; omega)]; omega
 ·rw [us_add h.1, if_pos h.1, cost_adds]
 ·rw [us_cut h.1, if_neg (by omega), if_pos h.1, cost_cuts]; omega
theorem cost_l0 (d : List S70) (hok : ∀ s ∈ d, StepOK s) (hl : d.length ≤ 1073741824) (n : Nat) : ∀ (i : Nat) (acc : Int), i + n = d.length → 0 ≤ acc → acc + (costU (units (d.drop i)) : Int) ≤ 4294967296 →
  Ev (fun k => diff_Cost.l0 k acc d (d.length : Int) (i : Int)) (acc + (costU (units (d.drop i)) : Int), 0) := by
 induction n with
 | zero =>
  intro i acc hi h0 h1
  rw [List.drop_eq_nil_of_le (by omega), units_nil]
  refine Ev.step (f := fun _ => some (acc, 0)) (fun k => ?_) (by simpa [costU] using Ev.now ((acc, 0) : Int × Int))
  simp only [diff_Cost.l0]
  rw [if_neg (by omega)]
 | succ n ih =>
  intro i acc hi h0 h1
  have hlt : i < d.length := by omega
  have wi : wrap64 ((i : Int) + 1) = ((i + 1 : Nat) : Int) := by rw [wrap_up (by omega) (by omega)]; rfl
  have hk := hok _ (rd70_mem hlt)
  rw [drop_T70 d i hlt, units_cons, costU_app] at h1 ⊢
  have hc := cost_us hk
  obtain ⟨s, hs⟩ : ∃ s, s = rd_T70 d (i : Int) := ⟨_, rfl⟩
  rw [← hs] at hk h1 hc ⊢
  have hn : (0 : Int) ≤ (costU (us s) : Int) := by omega
  have := ih (i + 1) (acc + (costU (us s) : Int)) (by omega) (by omega) (by omega)
  rw [show acc + (costU (us s) : Int) + (costU (units (d.drop (i + 1))) : Int) = acc + ((costU (us s) + costU (units (d.drop (i + 1))) : Nat) : Int) by omega] at this
  refine Ev.step (fun k => ?_) this
  have hb : acc + (costU (us s) : Int) ≤ 4294967296 := by omega
  clear h1 ih this
  simp only [diff_Cost.l0]
  rw [if_pos (by omega), if_pos (by omega), if_pos (by omega), ← hs, wi]
  by_cases g1 : s.f0 = 1
  ·rw [if_pos g1] at hc ⊢; rw [← hc, w64 (by omega) (by omega)]
  ·rw [if_neg g1] at hc ⊢
   by_cases g2 : s.f0 = 2
   ·rw [if_pos g2] at hc ⊢; rw [← hc, w64 (by omega) (by omega)]
   ·rw [if_neg g2] at hc ⊢
    by_cases g3 : (s.f2.length : Int) > 0
    ·rw [if_pos g3] at hc ⊢; rw [← hc, w64 (by omega) (by omega)]
    ·rw [if_neg g3] at hc ⊢; rw [hc, Int.add_zero]
theorem cost_ev (d : List S70) (hs : DSm d) (h : DOK d) (hl : (units d).length ≤ 1073741824) : Ev (fun k => diff_Cost.f k d) ((costU (units d) : Int), 0) := by
 obtain ⟨r, er, hr⟩ := check_ev d hs
 obtain rfl := hr.2 h
 have h2 := cost_le (units d)
 have := cost_l0 d h.ok hs.1 d.length 0 0 (by omega) (by omega) (by rw [List.drop_zero]; omega)
 rw [List.drop_zero, Int.zero_add] at this
 exact Ev.bind er (Ev.congr (fun k => by rw [if_pos rfl]; rfl) this)
end Go.Proofs.Ytdgemabmmomebaa.PDelta
end
section
namespace Go.Proofs.Ytdgemabmmomebaa.PDelta
open Go.RowKit Go.Proofs.YtdgemabmmomebaaW.PrintWords Go.Proofs.YtdgemabmmomebaaW.PrintLast Go.Proofs.YtdgemabmmomebaaW.PrintMore
end Go.Proofs.Ytdgemabmmomebaa.PDelta
end
section
namespace Go.Proofs.Ytdgemabmmomebaa.PDelta
open Go.RowKit Go.Proofs.YtdgemabmmomebaaW.PrintWords Go.Proofs.YtdgemabmmomebaaW.PrintLast Go.Proofs.YtdgemabmmomebaaW.PrintMore
def cellT (t : List (List Int)) (i j : Int) : Option Int := if 0 ≤ i ∧ i < (t.length : Int) ∧ 0 ≤ j ∧ j < ((rd_L7 t i).length : Int) then some (rd (rd_L7 t i) j) else none
def rawL (k : Nat) (a b : List S84) (t : List (List Int)) : Nat → Nat → Nat → List S70 → Option (List S70)
 | 0, _, _, _ => none
 | m + 1, i, j, out =>
  if i < a.length ∨ j < b.length then
   (if i < a.length ∧ j < b.length ∧ Alk (rd_T84 a (i : Int)) (rd_T84 b (j : Int)) then
    (diff_price.f k (rd_T84 a (i : Int)).f0 (rd_T84 a (i : Int)).f1 (rd_T84 a (i : Int)).f2 (rd_T84 b (j : Int)).f0 (rd_T84 b (j : Int)).f1 (rd_T84 b (j : Int)).f2).bind fun p =>
     (cellT t (i : Int) (j : Int)).bind fun c => (cellT t (wrap64 ((i : Int) + 1)) (wrap64 ((j : Int) + 1))).bind fun d => some (decide (c = wrap64 (d + p)))
    else some false).bind fun q =>
   if q = true then (attr_Change.f (rd_T84 a (i : Int)).f2 (rd_T84 b (j : Int)).f2).bind fun c => rawL k a b t m (i + 1) (j + 1) (out ++ [⟨0, 1, c, []⟩]) else
   (if i < a.length then (if j = b.length then some true else (cellT t (i : Int) (j : Int)).bind fun c => (cellT t (wrap64 ((i : Int) + 1)) (j : Int)).bind fun d => some (decide (c = wrap64 (1 + d)))) else some false).bind fun q2 =>
   if q2 = true then rawL k a b t m (i + 1) j (out ++ [⟨2, 1, [], []⟩]) else rawL k a b t m i (j + 1) (out ++ [⟨1, 0, [], [rd_T84 b (j : Int)]⟩])
  else some out
theorem app_nil_f2 {l : List S38} (h : VA false l) : mrg rawE l [] = l := look_ext (va_raw h (va_nil true)).2 h.2 (fun n => by rw [look_raw h (va_nil true)]; rfl)
theorem change_self {l : List S38} (h : VA false l) : mrg changeE l l = [] := look_ext (va_change h h).2 (va_nil true).2 (fun n => by rw [look_change h h]; cases look l n <;> simp [Fc, look])
def stepOf : Un → S70
 | .keep t => ⟨0, 1, t, []⟩
 | .cut => ⟨2, 1, [], []⟩
 | .add x => ⟨1, 0, [], [x]⟩
theorem us_stepOf (u : Un) : us (stepOf u) = [u] := by cases u <;> rfl
theorem units_stepOf : ∀ u : List Un, units (u.map stepOf) = u
 | [] => rfl
 | x :: u => by rw [List.map_cons, units_cons, us_stepOf, units_stepOf u]; rfl
theorem cellT_ok {a b : List S84} {t : List (List Int)} (h : TR a b t 0) {i j : Nat} (hi : i ≤ a.length) (hj : j ≤ b.length) : cellT t (i : Int) (j : Int) = some (tc (a.drop i) (b.drop j) : Int) := by
 obtain ⟨w, c⟩ := h.row i (Nat.zero_le _) hi
 have := h.len
 unfold cellT
 rw [if_pos (by omega), c j hj]
theorem raw_spec {a b : List S84} {t : List (List Int)} (ht : TR a b t 0) (ha : a.length ≤ 1048576) (hb : b.length ≤ 1048576) (hpa : ∀ x ∈ a, ElemOK x ∧ x.f2.length ≤ 1048576) (hpb : ∀ x ∈ b, ElemOK x ∧ x.f2.length ≤ 1048576) :
  ∀ (m i j : Nat) (out : List S70), i ≤ a.length → j ≤ b.length → (a.length - i) + (b.length - j) < m →
   ∃ u, Ev (fun k => rawL k a b t m i j out) (out ++ u.map stepOf) ∧ Way (a.drop i) (b.drop j) u ∧ costU u = tc (a.drop i) (b.drop j) := by
 intro m
 induction m with
 | zero => intro i j out hi hj h; omega
 | succ m ih =>
  intro i j out hi hj h
  by_cases c0 : i < a.length ∨ j < b.length
  rotate_left
  ·refine ⟨[], Ev.congr (fun k => by rw [rawL, if_neg c0]) (by simpa using Ev.now out), ?_, ?_⟩
   ·rw [show a.drop i = [] from List.drop_eq_nil_of_le (by omega), show b.drop j = [] from List.drop_eq_nil_of_le (by omega)]; exact .nil
   ·rw [show a.drop i = [] from List.drop_eq_nil_of_le (by omega), tc_nil, List.length_drop]; show 0 = _; omega
  have b0 := tc_le _ (a.drop i) (b.drop j) (Nat.le_refl _)
  have b1 := tc_le _ (a.drop (i + 1)) (b.drop j) (Nat.le_refl _)
  have b3 := tc_le _ (a.drop (i + 1)) (b.drop (j + 1)) (Nat.le_refl _)
  simp only [List.length_drop] at b0 b1 b3
  have WI : Aside0 (wrap64 ((i : Int) + 1) = ((i + 1 : Nat) : Int)) := ⟨by rw [w64 (by omega) (by omega)]; omega⟩
  have WJ : Aside0 (wrap64 ((j : Int) + 1) = ((j + 1 : Nat) : Int)) := ⟨by rw [w64 (by omega) (by omega)]; omega⟩
  obtain ⟨x, hx⟩ : ∃ x, x = rd_T84 a (i : Int) := ⟨_, rfl⟩
  obtain ⟨y, hy⟩ : ∃ y, y = rd_T84 b (j : Int) := ⟨_, rfl⟩
  have hq : ∃ q : Bool, Ev (fun k => if i < a.length ∧ j < b.length ∧ Alk x y then
    (diff_price.f k x.f0 x.f1 x.f2 y.f0 y.f1 y.f2).bind fun p =>
     (cellT t (i : Int) (j : Int)).bind fun c => (cellT t (wrap64 ((i : Int) + 1)) (wrap64 ((j : Int) + 1))).bind fun d => some (decide (c = wrap64 (d + p)))
    else some false) q ∧ (q = true ↔ (i < a.length ∧ j < b.length ∧ Alk x y) ∧ tc (a.drop i) (b.drop j) = tc (a.drop (i + 1)) (b.drop (j + 1)) + prc x y) := by
   by_cases c : i < a.length ∧ j < b.length ∧ Alk x y
   ·have hp1 : prc x y ≤ 1 := by unfold prc; split <;> omega
    have hxm : x.f2.length ≤ 1099511627776 := by
     have := hpa x (by rw [hx]; have := drop_T84 a i c.1; exact List.mem_of_mem_drop (i := i) (by rw [this]; exact List.mem_cons_self))
     omega
    refine ⟨decide (tc (a.drop i) (b.drop j) = tc (a.drop (i + 1)) (b.drop (j + 1)) + prc x y), Ev.congr (fun k => by rw [if_pos c]) (Ev.bind (price_ev x y hxm) (Ev.congr (fun k => ?_) (Ev.now _))), ?_⟩
    ·rw [WI.out, WJ.out, cellT_ok ht hi hj, cellT_ok ht (by omega) (by omega), Option.bind_some, Option.bind_some, w64 (by omega) (by omega)]
     congr 1
     exact decide_eq_decide.mpr (by omega)
    ·rw [decide_eq_true_iff]; exact ⟨fun h => ⟨c, h⟩, fun h => h.2⟩
   ·exact ⟨false, Ev.congr (fun k => by rw [if_neg c]) (Ev.now _), ⟨fun h => (by cases h), fun h => absurd h.1 c⟩⟩
  have hq2 : ∃ q2 : Bool, (if i < a.length then (if j = b.length then some true else (cellT t (i : Int) (j : Int)).bind fun c => (cellT t (wrap64 ((i : Int) + 1)) (j : Int)).bind fun d => some (decide (c = wrap64 (1 + d)))) else some false) = some q2 ∧ (q2 = true ↔ i < a.length ∧ (j = b.length ∨ tc (a.drop i) (b.drop j) = 1 + tc (a.drop (i + 1)) (b.drop j))) := by
   by_cases c1 : i < a.length
   ·rw [if_pos c1]
    by_cases c2 : j = b.length
    ·exact ⟨true, by rw [if_pos c2], ⟨fun _ => ⟨c1, .inl c2⟩, fun _ => rfl⟩⟩
    ·refine ⟨decide (tc (a.drop i) (b.drop j) = 1 + tc (a.drop (i + 1)) (b.drop j)), ?_, by rw [decide_eq_true_iff]; exact ⟨fun h => ⟨c1, .inr h⟩, fun h => h.2.resolve_left c2⟩⟩
     rw [if_neg c2, WI.out, cellT_ok ht hi hj, cellT_ok ht (by omega) hj, Option.bind_some, Option.bind_some, w64 (by omega) (by omega)]
     congr 1
     exact decide_eq_decide.mpr (by omega)
   ·exact ⟨false, by rw [if_neg c1], ⟨fun h => (by cases h), fun h => absurd h.1 c1⟩⟩
  obtain ⟨q, eq, iq⟩ := hq
  obtain ⟨q2, eq2, iq2⟩ := hq2
  have unf : ∀ k, rawL k a b t (m + 1) i j out = (if i < a.length ∧ j < b.length ∧ Alk x y then
    (diff_price.f k x.f0 x.f1 x.f2 y.f0 y.f1 y.f2).bind fun p =>
     (cellT t (i : Int) (j : Int)).bind fun c => (cellT t (wrap64 ((i : Int) + 1)) (wrap64 ((j : Int) + 1))).bind fun d => some (decide (c = wrap64 (d + p)))
    else some false).bind fun q => if q = true then (attr_Change.f x.f2 y.f2).bind fun c => rawL k a b t m (i + 1) (j + 1) (out ++ [⟨0, 1, c, []⟩]) else
    if q2 = true then rawL k a b t m (i + 1) j (out ++ [⟨2, 1, [], []⟩]) else rawL k a b t m i (j + 1) (out ++ [⟨1, 0, [], [y]⟩]) := by
   intro k
   rw [rawL, if_pos c0, ← hx, ← hy, eq2]
   rfl
  by_cases g1 : q = true
  ·obtain ⟨⟨ci, cj, ck⟩, ct⟩ := iq.1 g1
   have da := drop_T84 a i ci
   have db := drop_T84 b j cj
   rw [← hx] at da
   rw [← hy] at db
   have mx := hpa x (List.mem_of_mem_drop (i := i) (by rw [da]; exact List.mem_cons_self))
   have my := hpb y (List.mem_of_mem_drop (i := j) (by rw [db]; exact List.mem_cons_self))
   obtain ⟨u, eu, wu', cu⟩ := ih (i + 1) (j + 1) (out ++ [⟨0, 1, mrg changeE x.f2 y.f2, []⟩]) (by omega) (by omega) (by omega)
   refine ⟨.keep (mrg changeE x.f2 y.f2) :: u, Ev.congr unf (Ev.bind eq (Ev.congr (fun k => ?_) (by rw [List.append_assoc] at eu; exact eu))), by rw [da, db]; exact .keep ck wu', ?_⟩
   ·rw [if_pos g1, change_f (by omega) (by omega), Option.bind_some]
   ·rw [ct, ← cu]
    unfold prc
    by_cases hs : x.f2 = y.f2
    ·rw [if_pos hs, show mrg changeE x.f2 y.f2 = [] from by rw [← hs]; exact change_self mx.1.2, costU]; omega
    ·rw [if_neg hs]
     cases hm : mrg changeE x.f2 y.f2 with
     | nil => exact absurd (by have := lead_back mx.1.2 my.1.2; rw [hm] at this; exact (app_nil_f2 mx.1.2).symm.trans this) hs
     | cons z l => rw [costU]
  ·by_cases g2 : q2 = true
   ·obtain ⟨ci, cc⟩ := iq2.1 g2
    have da := drop_T84 a i ci
    obtain ⟨u, eu, wu', cu⟩ := ih (i + 1) j (out ++ [⟨2, 1, [], []⟩]) (by omega) (by omega) (by omega)
    refine ⟨.cut :: u, Ev.congr unf (Ev.bind eq (Ev.congr (fun k => by rw [if_neg g1, if_pos g2]) (by rw [List.append_assoc] at eu; exact eu))), by rw [da]; exact .cut wu', ?_⟩
    rw [costU, cu]
    rcases cc with e | e
    ·rw [show b.drop j = [] from List.drop_eq_nil_of_le (by omega), tc_nil', tc_nil', List.length_drop, List.length_drop]; omega
    ·omega
   ·have cj : j < b.length := by
     by_cases cj : j < b.length
     ·exact cj
     ·exact absurd (iq2.2 ⟨by omega, .inl (by omega)⟩) g2
    have db := drop_T84 b j cj
    rw [← hy] at db
    obtain ⟨u, eu, wu', cu⟩ := ih i (j + 1) (out ++ [⟨1, 0, [], [y]⟩]) (by omega) (by omega) (by omega)
    refine ⟨.add y :: u, Ev.congr unf (Ev.bind eq (Ev.congr (fun k => by rw [if_neg g1, if_neg g2]) (by rw [List.append_assoc] at eu; exact eu))), by rw [db]; exact .add wu', ?_⟩
    rw [costU, cu]
    by_cases ci : i < a.length
    ·have da := drop_T84 a i ci
     rw [← hx] at da
     have hm := tc_cons x (a.drop (i + 1)) y (b.drop (j + 1))
     rw [← da, ← db] at hm
     have n2 : ¬ tc (a.drop i) (b.drop j) = 1 + tc (a.drop (i + 1)) (b.drop j) := fun e => g2 (iq2.2 ⟨ci, .inr e⟩)
     by_cases ck : Alk x y
     ·have n1 : ¬ tc (a.drop i) (b.drop j) = tc (a.drop (i + 1)) (b.drop (j + 1)) + prc x y := fun e => g1 (iq.2 ⟨⟨ci, cj, ck⟩, e⟩)
      rw [if_pos ck] at hm
      omega
     ·rw [if_neg ck] at hm
      omega
    ·rw [show a.drop i = [] from List.drop_eq_nil_of_le (by omega), tc_nil, tc_nil, List.length_drop, List.length_drop]; omega
theorem tidy_gen {A : Nat} (hA : A ≤ 1073741824) : ∀ (ss : List S70) (s : WD), WF A s → (∀ x ∈ ss, StepOK x ∧ SAt A x) → (wu s).length + (units ss).length ≤ 1073741824 →
  ∃ o, Ev (fun k => tidyL k ss s) (o, 0) ∧ FO A o ∧ E (units o) (wu s ++ units ss)
 | [], s, h, _, hl => by
  obtain ⟨o, e, fo, eu⟩ := done_spec h hA (by simp [units_nil] at hl; omega)
  exact ⟨o, e, fo, by rw [eu, units_nil, List.append_nil]; exact E.refl _⟩
 | x :: ss, s, h, hok, hl => by
  have hok' : ∀ y ∈ ss, StepOK y ∧ SAt A y := fun y hy => hok y (List.mem_cons_of_mem _ hy)
  rw [units_cons, List.length_append] at hl
  obtain ⟨hx, hxa⟩ := hok x List.mem_cons_self
  have hul := us_len hx
  have hsm : SSm x := stepok_small (n := 1073741824) hx (Nat.le_trans hxa.1 hA) ⟨by omega, fun y hy => Nat.le_trans (hxa.2 y hy) hA⟩ (Nat.le_refl _)
  obtain ⟨r0, hr0, hri⟩ := step_ev x hsm
  obtain rfl := hri.2 hx
  have hE : ∀ k, tidyE k x 0 = some 0 := fun k => by unfold tidyE; rw [if_neg (by unfold tidyC; split <;> simp)]
  have e : ∀ k, tidyL k (x :: ss) s = (delta_step.f k x.f0 x.f1 x.f2 x.f3).bind fun e0 => (tidyE k x e0).bind fun e => if e ≠ 0 then some ([], e) else if x.f0 = 0 then (keepF k s x.f1 x.f2).bind (tidyL k ss) else if x.f0 = 1 then (elemsF k s x.f3).bind (tidyL k ss) else if wrap64 (s.cut + x.f1) > 2147483647 then some ([], 3) else tidyL k ss ⟨s.out, s.add, wrap64 (s.cut + x.f1)⟩ := fun k => rfl
  rcases hx with hk | hk | hk
  ·obtain ⟨s1, e1, w1, u1⟩ := keep_spec x.f1 x.f2 h hk.2.2.2.2 hxa.1 hA hk.2.1 (by rw [us_keep hk.1, List.length_replicate] at hl; omega)
   obtain ⟨o, e2, fo, eu⟩ := tidy_gen hA ss s1 w1 hok' (by rw [u1, List.length_append, List.length_replicate]; rw [us_keep hk.1, List.length_replicate] at hl; omega)
   exact ⟨o, Ev.congr e (Ev.bind hr0 (Ev.congr (fun k => by rw [hE, Option.bind_some, if_neg (by decide), if_pos hk.1]) (Ev.bind e1 e2))), fo, by rw [units_cons, us_keep hk.1, ← List.append_assoc, ← u1]; exact eu⟩
  ·obtain ⟨s1, e1, w1, u1⟩ := elems_spec x.f3 h hk.2.2.2.2 hxa.2 hA (by rw [us_add hk.1, List.length_map] at hl; omega)
   have hwl := u1.len
   rw [List.length_append, List.length_map] at hwl
   obtain ⟨o, e2, fo, eu⟩ := tidy_gen hA ss s1 w1 hok' (by rw [us_add hk.1, List.length_map] at hl; omega)
   exact ⟨o, Ev.congr e (Ev.bind hr0 (Ev.congr (fun k => by rw [hE, Option.bind_some, if_neg (by decide), if_neg (by omega), if_pos hk.1]) (Ev.bind e1 e2))), fo, by rw [units_cons, us_add hk.1, ← List.append_assoc]; exact eu.trans (u1.app (E.refl _))⟩
  ·have hwl := wu_len s
   have hsc := h.cut
   have hxl : x.f1.toNat ≤ 1073741824 := by rw [us_cut hk.1, List.length_replicate] at hl; omega
   obtain ⟨w1, u1⟩ := cut_spec x.f1 h (by omega)
   obtain ⟨o, e2, fo, eu⟩ := tidy_gen hA ss ⟨s.out, s.add, s.cut + x.f1⟩ w1 hok' (by rw [u1, List.length_append, List.length_replicate]; rw [us_cut hk.1, List.length_replicate] at hl; omega)
   have hb : s.cut + x.f1 ≤ 1073741824 := by rw [us_cut hk.1, List.length_replicate] at hl; omega
   exact ⟨o, Ev.congr e (Ev.bind hr0 (Ev.congr (fun k => by rw [hE, Option.bind_some, if_neg (by decide), if_neg (by omega), if_neg (by omega), w64 (by omega) (by omega), if_neg (by omega)]) e2)), fo, by rw [units_cons, us_cut hk.1, ← List.append_assoc, ← u1]; exact eu⟩
def lastE (a : List S84) : S84 := rd_T84 a ((a.length : Int) - 1)
def Tied (a b : List S84) : Prop := 0 < a.length ∧ 0 < b.length ∧ (lastE a).f0 = 10 ∧ (lastE b).f0 = 10
instance (a b : List S84) : Decidable (Tied a b) := by unfold Tied; infer_instance
def rawC (k : Nat) (a b : List S84) (last : List S70) : Option (List S70) := (diff_table.f k a b).bind fun t => (rawL k a b t (a.length + b.length + 1) 0 0 []).bind fun out => (tidyF k (out ++ last)).bind fun r => some r.1
def rawF (k : Nat) (a b : List S84) : Option (List S70) :=
 if Tied a b then (attr_Change.f (lastE a).f2 (lastE b).f2).bind fun c => rawC k (a.take (a.length - 1)) (b.take (b.length - 1)) [⟨0, 1, c, []⟩] else rawC k a b []
theorem Way.steps {a b : List S84} {u : List Un} (h : Way a b u) : (∀ x ∈ a, ElemOK x ∧ x.f2.length ≤ 1048576) → (∀ y ∈ b, ElemOK y ∧ y.f2.length ≤ 1048576) → ∀ s ∈ u.map stepOf, StepOK s ∧ SAt 2097152 s := by
 induction h with
 | nil => intro _ _ s hs; cases hs
 | @keep x y a b u hk h ih =>
  intro ha hb s hs
  rw [List.map_cons, List.mem_cons] at hs
  rcases hs with rfl | hs
  ·have hx := ha x List.mem_cons_self
   have hy := hb y List.mem_cons_self
   have := mrg_len changeE x.f2 y.f2
   exact ⟨.inl ⟨rfl, by show (1 : Int) ≤ 1; omega, by show (1 : Int) ≤ 2147483647; omega, rfl, va_change hx.1.2 hy.1.2⟩, by show (mrg changeE x.f2 y.f2).length ≤ _; omega, fun z hz => by cases hz⟩
  ·exact ih (fun z hz => ha z (List.mem_cons_of_mem _ hz)) (fun z hz => hb z (List.mem_cons_of_mem _ hz)) s hs
 | @cut x a b u h ih =>
  intro ha hb s hs
  rw [List.map_cons, List.mem_cons] at hs
  rcases hs with rfl | hs
  ·exact ⟨.inr (.inr ⟨rfl, by show (1 : Int) ≤ 1; omega, by show (1 : Int) ≤ 2147483647; omega, rfl, rfl⟩), Nat.zero_le _, fun z hz => by cases hz⟩
  ·exact ih (fun z hz => ha z (List.mem_cons_of_mem _ hz)) hb s hs
 | @add y a b u h ih =>
  intro ha hb s hs
  rw [List.map_cons, List.mem_cons] at hs
  rcases hs with rfl | hs
  ·have hy := hb y List.mem_cons_self
   exact ⟨.inr (.inl ⟨rfl, rfl, rfl, by simp [stepOf], pok_mem.2 (fun z hz => by rw [List.mem_singleton.1 hz]; exact hy.1)⟩), Nat.zero_le _, fun z hz => by rw [List.mem_singleton.1 hz]; have := hy.2; omega⟩
  ·exact ih ha (fun z hz => hb z (List.mem_cons_of_mem _ hz)) s hs
theorem rawC_spec (a b : List S84) (ha : a.length ≤ 1048576) (hb : b.length ≤ 1048576) (hpa : ∀ x ∈ a, ElemOK x ∧ x.f2.length ≤ 1048576) (hpb : ∀ x ∈ b, ElemOK x ∧ x.f2.length ≤ 1048576) (last : List S70) (hl : ∀ s ∈ last, StepOK s ∧ SAt 2097152 s) (hll : (units last).length ≤ 1) :
  ∃ d u, Ev (fun k => rawC k a b last) d ∧ FO 2097152 d ∧ Way a b u ∧ costU u = tc a b ∧ E (units d) (u ++ units last) := by
 obtain ⟨t, et, ht⟩ := table_ev a b ha hb (fun x hx => by have := (hpa x hx).2; omega)
 obtain ⟨u, eu, hw, hc⟩ := raw_spec ht ha hb hpa hpb (a.length + b.length + 1) 0 0 [] (Nat.zero_le _) (Nat.zero_le _) (by omega)
 rw [List.drop_zero, List.drop_zero] at hw hc
 rw [List.nil_append] at eu
 have hul := (hw.leads (fun x hx => (hpa x hx).1) (fun x hx => (hpb x hx).1)).2.2.2
 have hst := hw.steps hpa hpb
 have hlast := units_len (fun s hs => (hl s hs).1)
 obtain ⟨o, e2, fo, eo⟩ := tidy_gen (A := 2097152) (by omega) (u.map stepOf ++ last) ⟨[], [], 0⟩ (WF.nil _) (fun x hx => by rcases List.mem_append.1 hx with h | h; exact hst x h; exact hl x h) (by
  rw [units_app, units_stepOf, List.length_append]
  show 0 + _ ≤ _
  omega)
 rw [units_app, units_stepOf] at eo
 have e2' : Ev (fun k => tidyF k (u.map stepOf ++ last)) (o, 0) := Ev.congr (fun k => by unfold tidyF; rw [if_neg (by rw [List.length_append, List.length_map]; omega)]) e2
 exact ⟨o, u, Ev.bind et (Ev.bind eu (Ev.bind e2' (Ev.now _))), fo, hw, hc, eo⟩
theorem app_change {x y : S84} (hk : Alk x y) (hx : ElemOK x) (hy : ElemOK y) : app (mrg changeE x.f2 y.f2) x = y := by
 unfold app
 rw [lead_back hx.2 hy.2]
 cases x; cases y
 obtain ⟨h1, h2⟩ := hk
 simp only at h1 h2
 subst h1 h2
 rfl
theorem Way.run_more {a b : List S84} {u : List Un} (h : Way a b u) (z : List S84) : (∀ x ∈ a, ElemOK x) → (∀ y ∈ b, ElemOK y) → run (a ++ z) u = (b, z) := by
 induction h with
 | nil => intro _ _; rfl
 | @keep x y a b u hk h ih =>
  intro ha hb
  rw [List.cons_append, run, ih (fun w hw => ha w (List.mem_cons_of_mem _ hw)) (fun w hw => hb w (List.mem_cons_of_mem _ hw))]
  simp only
  rw [app_change hk (ha x List.mem_cons_self) (hb y List.mem_cons_self)]
 | @cut x a b u h ih =>
  intro ha hb
  rw [List.cons_append, run, ih (fun w hw => ha w (List.mem_cons_of_mem _ hw)) hb]
 | @add y a b u h ih =>
  intro ha hb
  rw [run, ih ha (fun w hw => hb w (List.mem_cons_of_mem _ hw))]
noncomputable def tcT (a b : List S84) : Nat := if Tied a b then tc (a.take (a.length - 1)) (b.take (b.length - 1)) + prc (lastE a) (lastE b) else tc a b
theorem take_last {a : List S84} (h : 0 < a.length) : a = a.take (a.length - 1) ++ [lastE a] := by
 have := drop_T84 a (a.length - 1) (by omega)
 rw [List.drop_eq_nil_of_le (i := a.length - 1 + 1) (by omega), show ((a.length - 1 : Nat) : Int) = (a.length : Int) - 1 by omega] at this
 conv => lhs; rw [← List.take_append_drop (a.length - 1) a, this]
 rfl
theorem tcT_comm (a b : List S84) : tcT a b = tcT b a := by
 unfold tcT
 by_cases h : Tied a b
 ·rw [if_pos h, if_pos (show Tied b a from ⟨h.2.1, h.1, h.2.2.2, h.2.2.1⟩), tc_comm _ _ _ (Nat.le_refl _), prc_comm]
 ·rw [if_neg h, if_neg (fun e : Tied b a => h ⟨e.2.1, e.1, e.2.2.2, e.2.2.1⟩), tc_comm _ _ _ (Nat.le_refl _)]
theorem tcT_le (a b : List S84) : tcT a b ≤ a.length + b.length := by
 unfold tcT
 split
 ·rename_i h
  have h1 := tc_le _ (a.take (a.length - 1)) (b.take (b.length - 1)) (Nat.le_refl _)
  rw [List.length_take, List.length_take] at h1
  have h2 : prc (lastE a) (lastE b) ≤ 1 := by unfold prc; split <;> omega
  have := h.1
  omega
 ·exact tc_le _ a b (Nat.le_refl _)
theorem last_mem {a : List S84} (h : 0 < a.length) : lastE a ∈ a := by
 have e : lastE a ∈ a.take (a.length - 1) ++ [lastE a] := List.mem_append_right _ (List.mem_singleton.2 rfl)
 rwa [← take_last h] at e
theorem cost_keep {x y : S84} (hx : ElemOK x) (hy : ElemOK y) (u : List Un) : costU (.keep (mrg changeE x.f2 y.f2) :: u) = costU u + prc x y := by
 unfold prc
 by_cases hs : x.f2 = y.f2
 ·rw [if_pos hs, show mrg changeE x.f2 y.f2 = [] from by rw [← hs]; exact change_self hx.2, costU]; rfl
 ·rw [if_neg hs]
  cases hm : mrg changeE x.f2 y.f2 with
  | nil => exact absurd (by have := lead_back hx.2 hy.2; rw [hm] at this; exact (app_nil_f2 hx.2).symm.trans this) hs
  | cons z l => rw [costU]
theorem rawF_spec (a b : List S84) (ha : a.length ≤ 1048576) (hb : b.length ≤ 1048576) (hpa : ∀ x ∈ a, ElemOK x ∧ x.f2.length ≤ 1048576) (hpb : ∀ x ∈ b, ElemOK x ∧ x.f2.length ≤ 1048576) :
  ∃ d, Ev (fun k => rawF k a b) d ∧ FO 2097152 d ∧ nold (units d) = a.length ∧ (run a (units d)).1 = b ∧ costU (units d) = tcT a b ∧ (units d).length ≤ a.length + b.length := by
 by_cases ht : Tied a b
 ·obtain ⟨h1, h2, h3, h4⟩ := ht
  have ea := take_last h1
  have eb := take_last h2
  have hxa := hpa (lastE a) (last_mem h1)
  have hyb := hpb (lastE b) (last_mem h2)
  have hA : ∀ x ∈ a.take (a.length - 1), ElemOK x ∧ x.f2.length ≤ 1048576 := fun x hx => hpa x (List.mem_of_mem_take hx)
  have hB : ∀ x ∈ b.take (b.length - 1), ElemOK x ∧ x.f2.length ≤ 1048576 := fun x hx => hpb x (List.mem_of_mem_take hx)
  have hk : Alk (lastE a) (lastE b) := by
   have c1 := hxa.1.1
   have c2 := hyb.1.1
   exact ⟨by omega, by rcases c1 with c1 | c1 <;> rcases c2 with c2 | c2 <;> omega⟩
  have hml := mrg_len changeE (lastE a).f2 (lastE b).f2
  obtain ⟨d, u, ed, fo, hw, hc, eE⟩ := rawC_spec (a.take (a.length - 1)) (b.take (b.length - 1)) (by rw [List.length_take]; omega) (by rw [List.length_take]; omega) hA hB [⟨0, 1, mrg changeE (lastE a).f2 (lastE b).f2, []⟩]
   (fun s hs => by rw [List.mem_singleton.1 hs]; exact ⟨.inl ⟨rfl, by show (1 : Int) ≤ 1; omega, by show (1 : Int) ≤ 2147483647; omega, rfl, va_change hxa.1.2 hyb.1.2⟩, by show (mrg changeE _ _).length ≤ _; omega, fun z hz => by cases hz⟩) (by show 1 ≤ 1; omega)
  have eU : units [(⟨0, 1, mrg changeE (lastE a).f2 (lastE b).f2, []⟩ : S70)] = [.keep (mrg changeE (lastE a).f2 (lastE b).f2)] := rfl
  rw [eU] at eE
  obtain ⟨_, lo, _, ll⟩ := hw.leads (fun x hx => (hA x hx).1) (fun x hx => (hB x hx).1)
  have hr := hw.run_more [lastE a] (fun x hx => (hA x hx).1) (fun x hx => (hB x hx).1)
  rw [← ea] at hr
  rw [List.length_take, List.length_take] at ll
  rw [List.length_take] at lo
  refine ⟨d, Ev.congr (fun k => ?_) ed, fo, ?_, ?_, ?_, ?_⟩
  ·unfold rawF
   rw [if_pos ⟨h1, h2, h3, h4⟩, change_f (by omega) (by omega), Option.bind_some]
  ·rw [eE.old, nold_app, lo]; show _ + 1 = _; omega
  ·rw [eE.run, run_app, hr]
   show (b.take (b.length - 1)) ++ (run [lastE a] [.keep _]).1 = b
   rw [run, app_change hk hxa.1 hyb.1]
   show _ ++ [lastE b] = b
   exact eb.symm
  ·rw [eE.cost, costU_app, cost_keep hxa.1 hyb.1, hc]
   unfold tcT
   rw [if_pos ⟨h1, h2, h3, h4⟩]
   show _ + (0 + _) = _
   omega
  ·rw [eE.len, List.length_append]; show _ + 1 ≤ _; omega
 ·obtain ⟨d, u, ed, fo, hw, hc, eE⟩ := rawC_spec a b ha hb hpa hpb [] (fun s hs => by cases hs) (by show 0 ≤ 1; omega)
  rw [units_nil, List.append_nil] at eE
  obtain ⟨lr, lo, _, ll⟩ := hw.leads (fun x hx => (hpa x hx).1) (fun x hx => (hpb x hx).1)
  exact ⟨d, Ev.congr (fun k => by unfold rawF; rw [if_neg ht]) ed, fo, by rw [eE.old, lo], by rw [eE.run, lr], by rw [eE.cost, hc]; unfold tcT; rw [if_neg ht], by rw [eE.len]; exact ll⟩
end Go.Proofs.Ytdgemabmmomebaa.PDelta
end

/- Parts of the proof of Pair: nothing is claimed here by itself. -/
import Derived.Test.YtdgemabmmomebaaKPair3
import Derived.StillTailTactics
set_option linter.unusedVariables false
set_option linter.unusedSimpArgs false
section
namespace Go.Proofs.Ytdgemabmmomebaa.PDelta
open Go.RowKit Go.Proofs.YtdgemabmmomebaaW.PrintWords Go.Proofs.YtdgemabmmomebaaW.PrintLast Go.Proofs.YtdgemabmmomebaaW.PrintMore
attribute [local go_sem] max2_int min2_int max_two min_two max_three min_three max_four min_four
attribute [local go_sem high] Go.Proofs.Ytdgemabmmomebaa.Ord.leq_str Go.Proofs.Ytdgemabmmomebaa.Ord.gtr_str Go.Proofs.Ytdgemabmmomebaa.Ord.geq_str
def chanceryref1_SameFlow.l0 : Nat → List (S84) → List (S84) → Int → Int → Option (Bool)
  | 0, _, _, _, _ => none
  | k + 1, x0, x1, x12, x13 => if x13 < x12 then (if 0 ≤ x13 then (if x13 < (x0.length : Int) then (if x13 < (x1.length : Int) then ((chanceryref1_SameElem.f k ((rd_T84 x0 x13).f0) ((rd_T84 x0 x13).f1) ((rd_T84 x0 x13).f2) ((rd_T84 x1 x13).f0) ((rd_T84 x1 x13).f1) ((rd_T84 x1 x13).f2)).bind fun t195 => (if t195 = true then (chanceryref1_SameFlow.l0 k x0 x1 x12 (wrap64 (x13 + 1))) else (some false))) else (none)) else (none)) else (none)) else (some true)
def chanceryref1_SameFlow.f (k : Nat) (l0 : List (S84)) (l1 : List (S84)) : Option (Bool) := if (l0.length : Int) = (l1.length : Int) then (chanceryref1_SameFlow.l0 k l0 l1 (l0.length : Int) 0) else (some false)
def chanceryref1_SameFlow.T6 : Bool × List (List Nat × List Nat) := (true, [([], []), ([], []), ([0, 1], [0, 1]), ([2], [2]), ([], []), ([], []), ([4, 5], [4, 5]), ([6], [6]), ([3, 7], [3, 7]), ([8], [8])])
def chanceryref1_SameFlow.B6 : List Nat := [0, 0, 3, 7, 0, 0, 48, 112, 255, 511]
theorem chanceryref1_SameFlow.tab6 : rtab .any (opsOf Try.f50 6) = chanceryref1_SameFlow.T6 := by kernel_rfl
theorem chanceryref1_SameFlow.bits6 : waitsOk chanceryref1_SameFlow.T6.2 chanceryref1_SameFlow.B6 = true := by kernel_rfl
set_option maxHeartbeats 8000000 in
set_option maxRecDepth 100000 in
theorem chanceryref1_SameFlow.calls (k : Nat) (A0 : Option Addr) (c0 : Nat) (l0 : List (S84)) (A1 : Option Addr) (c1 : Nat) (l1 : List (S84)) (r : Bool) (w : World) (hr0 : Kd.C k84 w A0 l0.length l0) (hc0 : l0.length ≤ c0) (hr1 : Kd.C k84 w A1 l1.length l1) (hc1 : l1.length ≤ c1) (h : chanceryref1_SameFlow.f k l0 l1 = some r) :
    Calls Try.prog 50 #[.slice A0 l0.length c0, .slice A1 l1.length c1] w fun e w' => e = .returned (.bool r) ∧ Below w.heap.size w w' := by
  have hu84 := Try.underlying84
  have HR0 := Aside0.mk hr0
  have HC0 := Aside0.mk hc0
  clear hr0 hc0
  have HR1 := Aside0.mk hr1
  have HC1 := Aside0.mk hc1
  clear hr1 hc1
  have HB := Aside0.mk (Below.refl w.heap.size w)
  have H : (if (l0.length : Int) = (l1.length : Int) then (chanceryref1_SameFlow.l0 k l0 l1 (l0.length : Int) 0) else (some false)) = some r := h
  clear h
  by_cases c3 : (l0.length : Int) = (l1.length : Int)
  · rw [if_pos c3] at H
    have c3b0 : ((l0.length : Int) == (l1.length : Int)) = true := beq_iff_eq.mpr c3
    have c3b1 : ((l0.length : Int) != (l1.length : Int)) = false := bne_eq_false_iff_eq.mpr c3
    have c3b2 : (l0.length == l1.length) = true := by first | simpa using c3 | (simp at c3 ⊢; omega)
    clear c3
    have H' := Aside0.mk H
    clear H
    go_enter Try.func50, Try.ntmps50
    go_wp2
    go_loopg [13] k (fun kq v13 w' => ∃ (x13_1 : Int), v13 = .int .i64 x13_1 ∧ Aside0 (chanceryref1_SameFlow.l0 kq l0 l1 (l0.length : Int) x13_1 = some r) ∧ Aside0 (kq ≤ k) ∧ Aside0 (Below w.heap.size w w'))
    case atStart => exact ⟨(0), (by first | rfl | (simp; done) | (simp [*]; done)), H', ⟨Nat.le_refl _⟩, ⟨by repeat (first | (with_reducible first | exact HB.out | apply below_alloc | apply pw_below_drewN | apply below_drew1) | exact HB.out)⟩⟩
    case round =>
      clear H'
      try clear c1
      try clear p2
      try clear c3
      try clear c3b0
      try clear c3b1
      try clear c3b2
      obtain ⟨x13_1, rfl, HA, HK1, HB⟩ := hrel
      cases gk with
      | zero => exact absurd HA.out (by simp [chanceryref1_SameFlow.l0])
      | succ k1 =>
        have H := HA.out
        clear HA
        simp only [chanceryref1_SameFlow.l0] at H
        by_cases c4 : x13_1 < (l0.length : Int)
        · rw [if_pos c4] at H
          have c4b0 : decide (x13_1 < (l0.length : Int)) = true := decide_eq_true c4
          clear c4
          by_cases c5 : 0 ≤ x13_1
          · rw [if_pos c5] at H
            have c5b0 : decide (0 ≤ x13_1) = true := decide_eq_true c5
            clear c5
            by_cases c6 : x13_1 < (l0.length : Int)
            · rw [if_pos c6] at H
              have c6b0 : decide (x13_1 < (l0.length : Int)) = true := decide_eq_true c6
              clear c6
              by_cases c7 : x13_1 < (l1.length : Int)
              · rw [if_pos c7] at H
                have c7b0 : decide (x13_1 < (l1.length : Int)) = true := decide_eq_true c7
                clear c7
                replace H := Option.bind_eq_some_iff.mp H
                obtain ⟨t195, A80, H⟩ := H
                replace H : (if t195 = true then (chanceryref1_SameFlow.l0 k1 l0 l1 (l0.length : Int) (wrap64 (x13_1 + 1))) else (some false)) = some r := H
                have A8 := Aside0.mk A80
                clear A80
                by_cases c9 : t195 = true
                · subst c9
                  have H1 : (chanceryref1_SameFlow.l0 k1 l0 l1 (l0.length : Int) (wrap64 (x13_1 + 1))) = some r := by rw [if_pos rfl] at H; exact H
                  clear H
                  have H := H1
                  clear H1
                  have H' := Aside0.mk H
                  clear H
                  try go_wp2
                  have n0_ := Aside0.mk (below_drew1 HB.out)
                  clear HB
                  have HB := n0_
                  clear n0_
                  have p193 : 0 ≤ (x13_1 : Int) := of_decide_eq_true (by first | (with_reducible assumption) | assumption)
                  have q193 : x13_1 < (l0.length : Int) := of_decide_eq_true (by first | (with_reducible assumption) | assumption)
                  obtain ⟨ad193, A193_2, c193_2, e193, hx193_0, hx193_1, hx193_2, hl193_2, hi193_2⟩ := at_T84 HR0.out x13_1 p193 q193
                  have hw193_2 := hx193_2
                  have hw193_1 := hx193_1
                  have hw193_0 := hx193_0
                  cases e193
                  replace hx193_0 := (HB.out.cell (World.block_lt_of_cell? w _ hx193_0)).trans hx193_0
                  replace hx193_1 := (HB.out.cell (World.block_lt_of_cell? w _ hx193_1)).trans hx193_1
                  replace hx193_2 := (HB.out.cell (World.block_lt_of_cell? w _ hx193_2)).trans hx193_2
                  have HR193_2 := Aside0.mk hi193_2
                  have HC193_2 := Aside0.mk hl193_2
                  clear hi193_2 hl193_2
                  replace p193 := eq_true p193
                  replace q193 := eq_true q193
                  have p194 : 0 ≤ (x13_1 : Int) := of_decide_eq_true (by first | (with_reducible assumption) | assumption)
                  have q194 : x13_1 < (l1.length : Int) := of_decide_eq_true (by first | (with_reducible assumption) | assumption)
                  obtain ⟨ad194, A194_2, c194_2, e194, hx194_0, hx194_1, hx194_2, hl194_2, hi194_2⟩ := at_T84 HR1.out x13_1 p194 q194
                  have hw194_2 := hx194_2
                  have hw194_1 := hx194_1
                  have hw194_0 := hx194_0
                  cases e194
                  replace hx194_0 := (HB.out.cell (World.block_lt_of_cell? w _ hx194_0)).trans hx194_0
                  replace hx194_1 := (HB.out.cell (World.block_lt_of_cell? w _ hx194_1)).trans hx194_1
                  replace hx194_2 := (HB.out.cell (World.block_lt_of_cell? w _ hx194_2)).trans hx194_2
                  have HR194_2 := Aside0.mk hi194_2
                  have HC194_2 := Aside0.mk hl194_2
                  clear hi194_2 hl194_2
                  replace p194 := eq_true p194
                  replace q194 := eq_true q194
                  refine start_ (n := 10) (S := fun w' => w'.cell? (ad193.add ((x13_1).toNat * 3)) = some (.int .i64 ((rd_T84 l0 x13_1).f0)) ∧ w'.cell? ⟨(ad193.add ((x13_1).toNat * 3)).block, (ad193.add ((x13_1).toNat * 3)).off + 1, none⟩ = some (.int .i64 ((rd_T84 l0 x13_1).f1)) ∧ w'.cell? ⟨(ad193.add ((x13_1).toNat * 3)).block, (ad193.add ((x13_1).toNat * 3)).off + 2, none⟩ = some (.slice A193_2 ((rd_T84 l0 x13_1).f2).length c193_2) ∧ w'.cell? (ad194.add ((x13_1).toNat * 3)) = some (.int .i64 ((rd_T84 l1 x13_1).f0)) ∧ w'.cell? ⟨(ad194.add ((x13_1).toNat * 3)).block, (ad194.add ((x13_1).toNat * 3)).off + 1, none⟩ = some (.int .i64 ((rd_T84 l1 x13_1).f1)) ∧ w'.cell? ⟨(ad194.add ((x13_1).toNat * 3)).block, (ad194.add ((x13_1).toNat * 3)).off + 2, none⟩ = some (.slice A194_2 ((rd_T84 l1 x13_1).f2).length c194_2)) (ds := []) #[false, false, false, false, false, false, false, false, false, false] (by kernel_rfl) rfl rfl ⟨((HB.out.cell (World.block_lt_of_cell? w _ hw193_0)).trans hw193_0), ((HB.out.cell (World.block_lt_of_cell? w _ hw193_1)).trans hw193_1), ((HB.out.cell (World.block_lt_of_cell? w _ hw193_2)).trans hw193_2), ((HB.out.cell (World.block_lt_of_cell? w _ hw194_0)).trans hw194_0), ((HB.out.cell (World.block_lt_of_cell? w _ hw194_1)).trans hw194_1), ((HB.out.cell (World.block_lt_of_cell? w _ hw194_2)).trans hw194_2)⟩ (fun hHeld => ?_); refine with_tabW chanceryref1_SameFlow.tab6 chanceryref1_SameFlow.bits6 (fun HT_ HW_ => ?_)
                  generalize wr.drew = w10 at HB HR193_2 HR194_2 hx193_0 hx193_1 hx193_2 hx194_0 hx194_1 hx194_2 hHeld ⊢
                  refine pure_ (i := 0) (N := some 16) (v := ?_) (a' := ?_) (bm 1 10) rfl rfl (any_of HT_.out (by kernel_rfl)) (fun _ _ _ h => h) (Or.inl ⟨by rfl, ?_⟩) ?_ ?_
                  rotate_left
                  · intro w'
                    go_simp
                    with_reducible rfl
                  rotate_left
                  · simp only [Act.put, List.setIfInBounds_toArray, List.set_cons_zero, List.set_cons_succ, i64_w, i32_w]
                    rfl
                  refine pure_ (i := 1) (N := some 17) (v := ?_) (a' := ?_) (bm 3 10) rfl rfl (any_of HT_.out (by kernel_rfl)) (fun _ _ _ h => h) (Or.inl ⟨by rfl, ?_⟩) ?_ ?_
                  rotate_left
                  · intro w'
                    go_simp
                    with_reducible rfl
                  rotate_left
                  · simp only [Act.put, List.setIfInBounds_toArray, List.set_cons_zero, List.set_cons_succ, i64_w, i32_w]
                    rfl
                  refine pure_ (i := 2) (N := some 18) (v := ?_) (a' := ?_) (bm 7 10) rfl rfl (any_of HT_.out (by kernel_rfl)) (fun _ _ _ h => h) (Or.inl ⟨by rfl, ?_⟩) ?_ ?_
                  rotate_left
                  · intro w'
                    go_simp
                    with_reducible rfl
                  rotate_left
                  · simp only [Act.put, List.setIfInBounds_toArray, List.set_cons_zero, List.set_cons_succ, i64_w, i32_w]
                    rfl
                  refine pure_ (i := 4) (N := some 20) (v := ?_) (a' := ?_) (bm 23 10) rfl rfl (any_of HT_.out (by kernel_rfl)) (fun _ _ _ h => h) (Or.inl ⟨by rfl, ?_⟩) ?_ ?_
                  rotate_left
                  · intro w'
                    go_simp
                    with_reducible rfl
                  rotate_left
                  · simp only [Act.put, List.setIfInBounds_toArray, List.set_cons_zero, List.set_cons_succ, i64_w, i32_w]
                    rfl
                  refine pure_ (i := 5) (N := some 21) (v := ?_) (a' := ?_) (bm 55 10) rfl rfl (any_of HT_.out (by kernel_rfl)) (fun _ _ _ h => h) (Or.inl ⟨by rfl, ?_⟩) ?_ ?_
                  rotate_left
                  · intro w'
                    go_simp
                    with_reducible rfl
                  rotate_left
                  · simp only [Act.put, List.setIfInBounds_toArray, List.set_cons_zero, List.set_cons_succ, i64_w, i32_w]
                    rfl
                  refine pure_ (i := 6) (N := some 22) (v := ?_) (a' := ?_) (bm 119 10) rfl rfl (any_of HT_.out (by kernel_rfl)) (fun _ _ _ h => h) (Or.inl ⟨by rfl, ?_⟩) ?_ ?_
                  rotate_left
                  · intro w'
                    go_simp
                    with_reducible rfl
                  rotate_left
                  · simp only [Act.put, List.setIfInBounds_toArray, List.set_cons_zero, List.set_cons_succ, i64_w, i32_w]
                    rfl
                  refine take_ (i := 3) (N := some 19) (v := ?_) (a' := ?_) (bm 127 10) rfl rfl (take_ofW HT_.out HW_.out (by kernel_rfl)) (fun _ _ _ h => h) (Or.inl ⟨by rfl, ?_⟩) hHeld ?_ ?_
                  rotate_left
                  · rintro w' ⟨s0, s1, s2, s3, s4, s5⟩
                    go_simp
                    with_reducible rfl
                  rotate_left
                  · simp only [Act.put, List.setIfInBounds_toArray, List.set_cons_zero, List.set_cons_succ, i64_w, i32_w]
                    rfl
                  refine take_ (i := 7) (N := some 23) (v := ?_) (a' := ?_) (bm 255 10) rfl rfl (take_ofW HT_.out HW_.out (by kernel_rfl)) (fun _ _ _ h => h) (Or.inl ⟨by rfl, ?_⟩) hHeld ?_ ?_
                  rotate_left
                  · rintro w' ⟨s0, s1, s2, s3, s4, s5⟩
                    go_simp
                    with_reducible rfl
                  rotate_left
                  · simp only [Act.put, List.setIfInBounds_toArray, List.set_cons_zero, List.set_cons_succ, i64_w, i32_w]
                    rfl
                  refine one_ (i := 8) (N := some 24) (bm 511 10) rfl rfl (one_of HT_.out (by kernel_rfl)) (by decide) (fun K hK => ?_)
                  refine goes_ Try.func92 (by kernel_rfl) rfl #[.agg #[.int .i64 ((rd_T84 l0 x13_1).f0), .int .i64 ((rd_T84 l0 x13_1).f1), .slice A193_2 ((rd_T84 l0 x13_1).f2).length c193_2], .agg #[.int .i64 ((rd_T84 l1 x13_1).f0), .int .i64 ((rd_T84 l1 x13_1).f1), .slice A194_2 ((rd_T84 l1 x13_1).f2).length c194_2]] (by rfl) rfl rfl (by (try simp only [List.map_toArray, List.map_cons, List.map_nil]); first | done | rfl | (simp only [List.length_drop, List.length_take]; rfl)) ?_
                  with_reducible refine (chanceryref1_SameElem.calls k1 ((rd_T84 l0 x13_1).f0) ((rd_T84 l0 x13_1).f1) _ _ ((rd_T84 l0 x13_1).f2) ((rd_T84 l1 x13_1).f0) ((rd_T84 l1 x13_1).f1) _ _ ((rd_T84 l1 x13_1).f2) true _ ?side1 ?side2 ?side3 ?side4 A8.out).mono ?_
                  (case side1 => repeat (first | exact (Kd.C_below HR193_2.out HB.out) | (with_reducible refine Kd.C_alloc ?_ _) | (with_reducible refine Kd.C_drewN ?_ _) | (with_reducible refine Kd.C_drew ?_)))
                  (case side2 => exact HC193_2.out)
                  (case side3 => repeat (first | exact (Kd.C_below HR194_2.out HB.out) | (with_reducible refine Kd.C_alloc ?_ _) | (with_reducible refine Kd.C_drewN ?_ _) | (with_reducible refine Kd.C_drew ?_)))
                  (case side4 => exact HC194_2.out)
                  rintro e w11 ⟨rfl, hb⟩
                  refine ⟨_, rfl, ?_⟩
                  have n0_ := Aside0.mk (below_step (by with_reducible repeat first | exact HB.out | apply below_alloc | apply pw_below_drewN | apply below_drew1) hb)
                  clear HB
                  have HB := n0_
                  clear n0_
                  (try clear hb)
                  (try clear hb2)
                  (try clear hk)
                  (try clear hi)
                  refine hK.out _ _ ⟨((HB.out.cell (World.block_lt_of_cell? w _ hw193_0)).trans hw193_0), ((HB.out.cell (World.block_lt_of_cell? w _ hw193_1)).trans hw193_1), ((HB.out.cell (World.block_lt_of_cell? w _ hw193_2)).trans hw193_2), ((HB.out.cell (World.block_lt_of_cell? w _ hw194_0)).trans hw194_0), ((HB.out.cell (World.block_lt_of_cell? w _ hw194_1)).trans hw194_1), ((HB.out.cell (World.block_lt_of_cell? w _ hw194_2)).trans hw194_2)⟩ (fun hHeld => ?_)
                  clear hK K
                  refine norm_ (a' := ?_) ?_ ?_
                  rotate_left
                  · show Act.put _ (some 24) _ = _
                    simp only [Act.put, List.setIfInBounds_toArray, List.set_cons_zero, List.set_cons_succ, i64_w, i32_w]
                    rfl
                  refine pure_ (i := 9) (N := some 25) (v := ?_) (a' := ?_) (bm 1023 10) rfl rfl (any_of HT_.out (by kernel_rfl)) (fun _ _ _ h => h) (Or.inl ⟨by rfl, ?_⟩) ?_ ?_
                  rotate_left
                  · intro w'
                    go_simp
                    with_reducible rfl
                  rotate_left
                  · simp only [Act.put, List.setIfInBounds_toArray, List.set_cons_zero, List.set_cons_succ, i64_w, i32_w]
                    rfl
                  refine done_ (done_of HT_.out (by kernel_rfl)) ?_
                  try go_wp2
                  go_roundg k1
                  case measure => have := HK1.out; omega
                  case rel => exact ⟨(wrap64 (x13_1 + 1)), (by first | rfl | (simp; done) | (simp [*]; done)), H', ⟨by have := HK1.out; omega⟩, ⟨by repeat (first | (with_reducible first | exact HB.out | apply below_alloc | apply pw_below_drewN | apply below_drew1) | exact HB.out)⟩⟩
                · replace c9 := Bool.eq_false_iff.mpr c9
                  subst c9
                  have H1 : (some false) = some r := by rw [if_neg (show ¬ (false = true) by decide)] at H; exact H
                  clear H
                  have H := H1
                  clear H1
                  obtain rfl := Option.some.inj H
                  try go_wp2
                  have n0_ := Aside0.mk (below_drew1 HB.out)
                  clear HB
                  have HB := n0_
                  clear n0_
                  have p193 : 0 ≤ (x13_1 : Int) := of_decide_eq_true (by first | (with_reducible assumption) | assumption)
                  have q193 : x13_1 < (l0.length : Int) := of_decide_eq_true (by first | (with_reducible assumption) | assumption)
                  obtain ⟨ad193, A193_2, c193_2, e193, hx193_0, hx193_1, hx193_2, hl193_2, hi193_2⟩ := at_T84 HR0.out x13_1 p193 q193
                  have hw193_2 := hx193_2
                  have hw193_1 := hx193_1
                  have hw193_0 := hx193_0
                  cases e193
                  replace hx193_0 := (HB.out.cell (World.block_lt_of_cell? w _ hx193_0)).trans hx193_0
                  replace hx193_1 := (HB.out.cell (World.block_lt_of_cell? w _ hx193_1)).trans hx193_1
                  replace hx193_2 := (HB.out.cell (World.block_lt_of_cell? w _ hx193_2)).trans hx193_2
                  have HR193_2 := Aside0.mk hi193_2
                  have HC193_2 := Aside0.mk hl193_2
                  clear hi193_2 hl193_2
                  replace p193 := eq_true p193
                  replace q193 := eq_true q193
                  have p194 : 0 ≤ (x13_1 : Int) := of_decide_eq_true (by first | (with_reducible assumption) | assumption)
                  have q194 : x13_1 < (l1.length : Int) := of_decide_eq_true (by first | (with_reducible assumption) | assumption)
                  obtain ⟨ad194, A194_2, c194_2, e194, hx194_0, hx194_1, hx194_2, hl194_2, hi194_2⟩ := at_T84 HR1.out x13_1 p194 q194
                  have hw194_2 := hx194_2
                  have hw194_1 := hx194_1
                  have hw194_0 := hx194_0
                  cases e194
                  replace hx194_0 := (HB.out.cell (World.block_lt_of_cell? w _ hx194_0)).trans hx194_0
                  replace hx194_1 := (HB.out.cell (World.block_lt_of_cell? w _ hx194_1)).trans hx194_1
                  replace hx194_2 := (HB.out.cell (World.block_lt_of_cell? w _ hx194_2)).trans hx194_2
                  have HR194_2 := Aside0.mk hi194_2
                  have HC194_2 := Aside0.mk hl194_2
                  clear hi194_2 hl194_2
                  replace p194 := eq_true p194
                  replace q194 := eq_true q194
                  refine start_ (n := 10) (S := fun w' => w'.cell? (ad193.add ((x13_1).toNat * 3)) = some (.int .i64 ((rd_T84 l0 x13_1).f0)) ∧ w'.cell? ⟨(ad193.add ((x13_1).toNat * 3)).block, (ad193.add ((x13_1).toNat * 3)).off + 1, none⟩ = some (.int .i64 ((rd_T84 l0 x13_1).f1)) ∧ w'.cell? ⟨(ad193.add ((x13_1).toNat * 3)).block, (ad193.add ((x13_1).toNat * 3)).off + 2, none⟩ = some (.slice A193_2 ((rd_T84 l0 x13_1).f2).length c193_2) ∧ w'.cell? (ad194.add ((x13_1).toNat * 3)) = some (.int .i64 ((rd_T84 l1 x13_1).f0)) ∧ w'.cell? ⟨(ad194.add ((x13_1).toNat * 3)).block, (ad194.add ((x13_1).toNat * 3)).off + 1, none⟩ = some (.int .i64 ((rd_T84 l1 x13_1).f1)) ∧ w'.cell? ⟨(ad194.add ((x13_1).toNat * 3)).block, (ad194.add ((x13_1).toNat * 3)).off + 2, none⟩ = some (.slice A194_2 ((rd_T84 l1 x13_1).f2).length c194_2)) (ds := []) #[false, false, false, false, false, false, false, false, false, false] (by kernel_rfl) rfl rfl ⟨((HB.out.cell (World.block_lt_of_cell? w _ hw193_0)).trans hw193_0), ((HB.out.cell (World.block_lt_of_cell? w _ hw193_1)).trans hw193_1), ((HB.out.cell (World.block_lt_of_cell? w _ hw193_2)).trans hw193_2), ((HB.out.cell (World.block_lt_of_cell? w _ hw194_0)).trans hw194_0), ((HB.out.cell (World.block_lt_of_cell? w _ hw194_1)).trans hw194_1), ((HB.out.cell (World.block_lt_of_cell? w _ hw194_2)).trans hw194_2)⟩ (fun hHeld => ?_); refine with_tabW chanceryref1_SameFlow.tab6 chanceryref1_SameFlow.bits6 (fun HT_ HW_ => ?_)
                  generalize wr.drew = w12 at HB HR193_2 HR194_2 hx193_0 hx193_1 hx193_2 hx194_0 hx194_1 hx194_2 hHeld ⊢
                  refine pure_ (i := 0) (N := some 16) (v := ?_) (a' := ?_) (bm 1 10) rfl rfl (any_of HT_.out (by kernel_rfl)) (fun _ _ _ h => h) (Or.inl ⟨by rfl, ?_⟩) ?_ ?_
                  rotate_left
                  · intro w'
                    go_simp
                    with_reducible rfl
                  rotate_left
                  · simp only [Act.put, List.setIfInBounds_toArray, List.set_cons_zero, List.set_cons_succ, i64_w, i32_w]
                    rfl
                  refine pure_ (i := 1) (N := some 17) (v := ?_) (a' := ?_) (bm 3 10) rfl rfl (any_of HT_.out (by kernel_rfl)) (fun _ _ _ h => h) (Or.inl ⟨by rfl, ?_⟩) ?_ ?_
                  rotate_left
                  · intro w'
                    go_simp
                    with_reducible rfl
                  rotate_left
                  · simp only [Act.put, List.setIfInBounds_toArray, List.set_cons_zero, List.set_cons_succ, i64_w, i32_w]
                    rfl
                  refine pure_ (i := 2) (N := some 18) (v := ?_) (a' := ?_) (bm 7 10) rfl rfl (any_of HT_.out (by kernel_rfl)) (fun _ _ _ h => h) (Or.inl ⟨by rfl, ?_⟩) ?_ ?_
                  rotate_left
                  · intro w'
                    go_simp
                    with_reducible rfl
                  rotate_left
                  · simp only [Act.put, List.setIfInBounds_toArray, List.set_cons_zero, List.set_cons_succ, i64_w, i32_w]
                    rfl
                  refine pure_ (i := 4) (N := some 20) (v := ?_) (a' := ?_) (bm 23 10) rfl rfl (any_of HT_.out (by kernel_rfl)) (fun _ _ _ h => h) (Or.inl ⟨by rfl, ?_⟩) ?_ ?_
                  rotate_left
                  · intro w'
                    go_simp
                    with_reducible rfl
                  rotate_left
                  · simp only [Act.put, List.setIfInBounds_toArray, List.set_cons_zero, List.set_cons_succ, i64_w, i32_w]
                    rfl
                  refine pure_ (i := 5) (N := some 21) (v := ?_) (a' := ?_) (bm 55 10) rfl rfl (any_of HT_.out (by kernel_rfl)) (fun _ _ _ h => h) (Or.inl ⟨by rfl, ?_⟩) ?_ ?_
                  rotate_left
                  · intro w'
                    go_simp
                    with_reducible rfl
                  rotate_left
                  · simp only [Act.put, List.setIfInBounds_toArray, List.set_cons_zero, List.set_cons_succ, i64_w, i32_w]
                    rfl
                  refine pure_ (i := 6) (N := some 22) (v := ?_) (a' := ?_) (bm 119 10) rfl rfl (any_of HT_.out (by kernel_rfl)) (fun _ _ _ h => h) (Or.inl ⟨by rfl, ?_⟩) ?_ ?_
                  rotate_left
                  · intro w'
                    go_simp
                    with_reducible rfl
                  rotate_left
                  · simp only [Act.put, List.setIfInBounds_toArray, List.set_cons_zero, List.set_cons_succ, i64_w, i32_w]
                    rfl
                  refine take_ (i := 3) (N := some 19) (v := ?_) (a' := ?_) (bm 127 10) rfl rfl (take_ofW HT_.out HW_.out (by kernel_rfl)) (fun _ _ _ h => h) (Or.inl ⟨by rfl, ?_⟩) hHeld ?_ ?_
                  rotate_left
                  · rintro w' ⟨s0, s1, s2, s3, s4, s5⟩
                    go_simp
                    with_reducible rfl
                  rotate_left
                  · simp only [Act.put, List.setIfInBounds_toArray, List.set_cons_zero, List.set_cons_succ, i64_w, i32_w]
                    rfl
                  refine take_ (i := 7) (N := some 23) (v := ?_) (a' := ?_) (bm 255 10) rfl rfl (take_ofW HT_.out HW_.out (by kernel_rfl)) (fun _ _ _ h => h) (Or.inl ⟨by rfl, ?_⟩) hHeld ?_ ?_
                  rotate_left
                  · rintro w' ⟨s0, s1, s2, s3, s4, s5⟩
                    go_simp
                    with_reducible rfl
                  rotate_left
                  · simp only [Act.put, List.setIfInBounds_toArray, List.set_cons_zero, List.set_cons_succ, i64_w, i32_w]
                    rfl
                  refine one_ (i := 8) (N := some 24) (bm 511 10) rfl rfl (one_of HT_.out (by kernel_rfl)) (by decide) (fun K hK => ?_)
                  refine goes_ Try.func92 (by kernel_rfl) rfl #[.agg #[.int .i64 ((rd_T84 l0 x13_1).f0), .int .i64 ((rd_T84 l0 x13_1).f1), .slice A193_2 ((rd_T84 l0 x13_1).f2).length c193_2], .agg #[.int .i64 ((rd_T84 l1 x13_1).f0), .int .i64 ((rd_T84 l1 x13_1).f1), .slice A194_2 ((rd_T84 l1 x13_1).f2).length c194_2]] (by rfl) rfl rfl (by (try simp only [List.map_toArray, List.map_cons, List.map_nil]); first | done | rfl | (simp only [List.length_drop, List.length_take]; rfl)) ?_
                  with_reducible refine (chanceryref1_SameElem.calls k1 ((rd_T84 l0 x13_1).f0) ((rd_T84 l0 x13_1).f1) _ _ ((rd_T84 l0 x13_1).f2) ((rd_T84 l1 x13_1).f0) ((rd_T84 l1 x13_1).f1) _ _ ((rd_T84 l1 x13_1).f2) false _ ?side1 ?side2 ?side3 ?side4 A8.out).mono ?_
                  (case side1 => repeat (first | exact (Kd.C_below HR193_2.out HB.out) | (with_reducible refine Kd.C_alloc ?_ _) | (with_reducible refine Kd.C_drewN ?_ _) | (with_reducible refine Kd.C_drew ?_)))
                  (case side2 => exact HC193_2.out)
                  (case side3 => repeat (first | exact (Kd.C_below HR194_2.out HB.out) | (with_reducible refine Kd.C_alloc ?_ _) | (with_reducible refine Kd.C_drewN ?_ _) | (with_reducible refine Kd.C_drew ?_)))
                  (case side4 => exact HC194_2.out)
                  rintro e w13 ⟨rfl, hb⟩
                  refine ⟨_, rfl, ?_⟩
                  have n0_ := Aside0.mk (below_step (by with_reducible repeat first | exact HB.out | apply below_alloc | apply pw_below_drewN | apply below_drew1) hb)
                  clear HB
                  have HB := n0_
                  clear n0_
                  (try clear hb)
                  (try clear hb2)
                  (try clear hk)
                  (try clear hi)
                  refine hK.out _ _ ⟨((HB.out.cell (World.block_lt_of_cell? w _ hw193_0)).trans hw193_0), ((HB.out.cell (World.block_lt_of_cell? w _ hw193_1)).trans hw193_1), ((HB.out.cell (World.block_lt_of_cell? w _ hw193_2)).trans hw193_2), ((HB.out.cell (World.block_lt_of_cell? w _ hw194_0)).trans hw194_0), ((HB.out.cell (World.block_lt_of_cell? w _ hw194_1)).trans hw194_1), ((HB.out.cell (World.block_lt_of_cell? w _ hw194_2)).trans hw194_2)⟩ (fun hHeld => ?_)
                  clear hK K
                  refine norm_ (a' := ?_) ?_ ?_
                  rotate_left
                  · show Act.put _ (some 24) _ = _
                    simp only [Act.put, List.setIfInBounds_toArray, List.set_cons_zero, List.set_cons_succ, i64_w, i32_w]
                    rfl
                  refine pure_ (i := 9) (N := some 25) (v := ?_) (a' := ?_) (bm 1023 10) rfl rfl (any_of HT_.out (by kernel_rfl)) (fun _ _ _ h => h) (Or.inl ⟨by rfl, ?_⟩) ?_ ?_
                  rotate_left
                  · intro w'
                    go_simp
                    with_reducible rfl
                  rotate_left
                  · simp only [Act.put, List.setIfInBounds_toArray, List.set_cons_zero, List.set_cons_succ, i64_w, i32_w]
                    rfl
                  refine done_ (done_of HT_.out (by kernel_rfl)) ?_
                  try go_wp2
                  go_ret
                  exact ⟨by first | rfl | (simp [errW_none, errW_some] <;> rfl) | (simp [*, errW_none, errW_some] <;> rfl), by repeat (first | (with_reducible first | exact HB.out | apply below_alloc | apply pw_below_drewN | apply below_drew1) | exact HB.out)⟩
              · rw [if_neg c7] at H
                exact absurd H (by simp)
            · rw [if_neg c6] at H
              exact absurd H (by simp)
          · rw [if_neg c5] at H
            exact absurd H (by simp)
        · rw [if_neg c4] at H
          have c4b0 : decide (x13_1 < (l0.length : Int)) = false := decide_eq_false c4
          clear c4
          obtain rfl := Option.some.inj H
          go_wp2
          go_ret
          exact ⟨by first | rfl | (simp [errW_none, errW_some] <;> rfl) | (simp [*, errW_none, errW_some] <;> rfl), by repeat (first | (with_reducible first | exact HB.out | apply below_alloc | apply pw_below_drewN | apply below_drew1) | exact HB.out)⟩
  · rw [if_neg c3] at H
    have c3b0 : ((l0.length : Int) == (l1.length : Int)) = false := beq_eq_false_iff_ne.mpr c3
    have c3b1 : ((l0.length : Int) != (l1.length : Int)) = true := bne_iff_ne.mpr c3
    have c3b2 : (l0.length == l1.length) = false := by first | simpa using c3 | (simp at c3 ⊢; omega)
    obtain rfl := Option.some.inj H
    go_enter Try.func50, Try.ntmps50
    go_wp2
    go_ret
    exact ⟨by first | rfl | (simp [errW_none, errW_some] <;> rfl) | (simp [*, errW_none, errW_some] <;> rfl), by repeat (first | (with_reducible first | exact HB.out | apply below_alloc | apply pw_below_drewN | apply below_drew1) | exact HB.out)⟩
def chancerykeep1_letters.l0 : Nat → ByteArray → List (S84) → Int → Int → Option ((List (S84)))
  | 0, _, _, _, _ => none
  | k + 1, x0, x3, x6, x7 => if x7 < x6 then (if 0 ≤ x7 then (if x7 < (x0.size : Int) then (if x3.length < 3518437208883 then (chancerykeep1_letters.l0 k x0 (x3 ++ [(⟨wrap64 (bt x0 x7), 0, ([] : List (S38))⟩ : S84)]) x6 (wrap64 (x7 + 1))) else (none)) else (none)) else (none)) else (some x3)
def chancerykeep1_letters.f (k : Nat) (a0 : ByteArray) : Option ((List (S84))) := chancerykeep1_letters.l0 k a0 ([] : List (S84)) (a0.size : Int) 0
set_option maxHeartbeats 8000000 in
set_option maxRecDepth 100000 in
theorem chancerykeep1_letters.calls (k : Nat) (a0 : ByteArray) (r : List (S84)) (w : World) (h : chancerykeep1_letters.f k a0 = some r) :
    Calls Try.prog 81 #[.string a0] w fun e w' => ∃ v0_ : Value, e = .returned (v0_) ∧ Kd.S k84 84 w' w.heap.size (fun _ => True) v0_ r ∧ Below w.heap.size w w' := by
  have hu84 := Try.underlying84
  have HB := Aside0.mk (Below.refl w.heap.size w)
  have H : (chancerykeep1_letters.l0 k a0 ([] : List (S84)) (a0.size : Int) 0) = some r := h
  clear h
  have H' := Aside0.mk H
  clear H
  go_enter Try.func81, Try.ntmps81
  go_wp2
  go_loopg [3, 7] k (fun kq v3 v7 w' => ∃ (x3_1 : List (S84)) (x7_1 : Int), v7 = .int .i64 x7_1 ∧ Aside0 (chancerykeep1_letters.l0 kq a0 x3_1 (a0.size : Int) x7_1 = some r) ∧ Aside0 (kq ≤ k) ∧ Aside0 (Kd.S k84 84 w' w.heap.size (fun _ => True) v3 x3_1) ∧ Aside0 (Below w.heap.size w w'))
  case atStart => exact ⟨(([] : List (S84))), (0), (by first | rfl | (simp; done) | (simp [*]; done)), H', ⟨Nat.le_refl _⟩, ⟨by first | exact Kd.S_nil _ _ _ _ _ | exact Kd.N_nil _ _ _ _ _ | exact Kd.V_nil _ _ _ _ _ | exact Kd.Q_nil _ _ _ _ _ | exact Kd.R_nil _ _ _ _ _⟩, ⟨by repeat (first | (with_reducible first | exact HB.out | apply below_alloc | apply pw_below_drewN | apply below_drew1) | exact HB.out)⟩⟩
  case round =>
    clear H'
    try clear p1
    obtain ⟨x3_1, x7_1, rfl, HA, HK1, HO_3, HB⟩ := hrel
    cases gk with
    | zero => exact absurd HA.out (by simp [chancerykeep1_letters.l0])
    | succ k1 =>
      have H := HA.out
      clear HA
      simp only [chancerykeep1_letters.l0] at H
      by_cases c2 : x7_1 < (a0.size : Int)
      · rw [if_pos c2] at H
        have c2b0 : decide (x7_1 < (a0.size : Int)) = true := decide_eq_true c2
        clear c2
        by_cases c3 : 0 ≤ x7_1
        · rw [if_pos c3] at H
          have c3b0 : decide (0 ≤ x7_1) = true := decide_eq_true c3
          clear c3
          by_cases c4 : x7_1 < (a0.size : Int)
          · rw [if_pos c4] at H
            have c4b0 : decide (x7_1 < (a0.size : Int)) = true := decide_eq_true c4
            clear c4
            by_cases c6 : x3_1.length < 3518437208883
            · rw [if_pos c6] at H
              have LMc6 := Aside0.mk c6
              clear c6
              obtain ⟨y196, hy196⟩ : ∃ y_ : List (S84), y_ = (x3_1 ++ [(⟨wrap64 (bt a0 x7_1), 0, ([] : List (S38))⟩ : S84)]) := ⟨_, rfl⟩
              replace H : (chancerykeep1_letters.l0 k1 a0 y196 (a0.size : Int) (wrap64 (x7_1 + 1))) = some r := by first | (rw [hy196]; with_reducible exact H) | (have H2_ := (Option.bind_some _ _).symm.trans H; rw [hy196]; with_reducible exact H2_) | (have H2_ := (Option.bind_some _ _).symm.trans H; with_reducible exact H2_) | with_reducible exact H | (rw [hy196]; exact H) | exact H
              have Ny196 := Aside0.mk hy196
              clear hy196
              have H' := Aside0.mk H
              clear H
              have p5 : 0 ≤ (x7_1 : Int) := of_decide_eq_true (by first | (with_reducible assumption) | assumption)
              have q5 : x7_1 < (a0.size : Int) := of_decide_eq_true (by first | (with_reducible assumption) | assumption)
              have hx5 := bt_at a0 x7_1
              replace p5 := eq_true p5
              replace q5 := eq_true q5
              go_wp2_with (first | ((with_reducible refine gate_builtin (b := .append) (xs := #[.tmp 10, .tmp 16]) rfl ?_); at_builtin; refine Kd.S_append k84 (w0 := w) w.heap.size rfl (.tmp 10) (.tmp 16) 63 84 (.agg #[(.int .i64 0), (.int .i64 0), (.slice none 0 0)]) 40 rfl Try.underlying63 info84 rfl (by decide) (by omega) u3 x3_1 (⟨wrap64 (bt a0 x7_1), 0, ([] : List (S38))⟩ : S84) [.int .i64 (wrap64 (bt a0 x7_1)), .int .i64 0, .slice none 0 0] (fun _ => True) (fun _ => False) rfl rfl ?aP (fun k_ hk_ => hk_.elim) ?aF ?aO ?aB ?aS ?aL ?_; (case aP => exact k84_mkM _ _ _ (⟨wrap64 (bt a0 x7_1), 0, ([] : List (S38))⟩ : S84) (Kd.R_nil _ _ _ _ _)); (case aB => exact (by with_reducible repeat first | exact HB.out | apply below_alloc | apply pw_below_drewN | apply below_drew1)); (case aF => exact (fun _ _ => trivial)); (case aO => exact (by (with_reducible repeat (first | apply Kd.S_alloc | apply Kd.S_drewN | apply Kd.S_drew)); exact Kd.S_mono HO_3.out (fun k_ hk => ⟨trivial, fun e_ => e_⟩))); (case aS => exact (below_size (by with_reducible repeat first | exact HB.out | apply below_alloc | apply pw_below_drewN | apply below_drew1))); (case aL => have := LMc6.out; omega); intro v197 w7 ho hb hg hat; rw [← Ny196.out] at ho; have n0_ := Aside0.mk (hb); have n1_ := Aside0.mk (ho); clear HB; clear HO_3; have HB := n0_; have HO198 := n1_; clear n0_ n1_; clear ho hb hg hat))
              go_roundg k1
              case measure => have := HK1.out; omega
              case rel => exact ⟨(y196), (wrap64 (x7_1 + 1)), (by first | rfl | (simp; done) | (simp [*]; done)), H', ⟨by have := HK1.out; omega⟩, ⟨by (with_reducible repeat (first | apply Kd.S_alloc | apply Kd.S_drewN | apply Kd.S_drew)); exact HO198.out⟩, ⟨by repeat (first | (with_reducible first | exact HB.out | apply below_alloc | apply pw_below_drewN | apply below_drew1) | exact HB.out)⟩⟩
            · rw [if_neg c6] at H
              exact absurd H (by simp)
          · rw [if_neg c4] at H
            exact absurd H (by simp)
        · rw [if_neg c3] at H
          exact absurd H (by simp)
      · rw [if_neg c2] at H
        have c2b0 : decide (x7_1 < (a0.size : Int)) = false := decide_eq_false c2
        clear c2
        obtain rfl := Option.some.inj H
        go_wp2
        go_ret
        exact ⟨_, by first | rfl | (simp [errW_none, errW_some] <;> rfl) | (simp [*, errW_none, errW_some] <;> rfl), by (with_reducible repeat (first | apply Kd.S_alloc | apply Kd.S_drewN | apply Kd.S_drew)); exact HO_3.out, by repeat (first | (with_reducible first | exact HB.out | apply below_alloc | apply pw_below_drewN | apply below_drew1) | exact HB.out)⟩
end Go.Proofs.Ytdgemabmmomebaa.PDelta
end
section
namespace Go.Proofs.Ytdgemabmmomebaa.PDelta
open Go.RowKit Go.Proofs.YtdgemabmmomebaaW.PrintWords Go.Proofs.YtdgemabmmomebaaW.PrintLast Go.Proofs.YtdgemabmmomebaaW.PrintMore
def Small (l : List S38) : Prop := l.length ≤ 1099511627776 ∧ ∀ x ∈ l, x.f0.size ≤ 1099511627776 ∧ x.f1.size ≤ 1099511627776
def ElOK (ch : Bool) (x : S38) : Prop := NameOK x.f0 ∧ (ValOK x.f1 ∨ (ch = true ∧ x.f1.size = 0))
def Srt (l : List S38) : Prop := l.Pairwise (fun x y => ltS x y = true)
def VA (ch : Bool) (l : List S38) : Prop := (∀ x ∈ l, ElOK ch x) ∧ Srt l
def EL (ch : Bool) (l : List S38) (j : Int) : Prop := ElOK ch (rd_T38 l j) ∧ (0 < j → ltS (rd_T38 l (j - 1)) (rd_T38 l j) = true)
theorem rd_mem {l : List S38} {i : Int} (h0 : 0 ≤ i) (h : i < l.length) : rd_T38 l i ∈ l := by
  have : i.toNat < l.length := by omega
  simp only [rd_T38, List.getD_eq_getElem?_getD, List.getElem?_eq_getElem this, Option.getD_some]
  exact List.getElem_mem this
theorem rd_cons {x : S38} {l : List S38} {i : Int} (h0 : 0 ≤ i) : rd_T38 (x :: l) (i + 1) = rd_T38 l i := by
  have : (i + 1).toNat = i.toNat + 1 := by omega
  simp [rd_T38, this]
theorem mem_rd {l : List S38} {x : S38} (h : x ∈ l) : ∃ i : Int, 0 ≤ i ∧ i < l.length ∧ rd_T38 l i = x := by
  obtain ⟨j, hj, e⟩ := List.getElem_of_mem h
  exact ⟨(j : Int), by omega, by omega, by simp [rd_T38, List.getD_eq_getElem?_getD, List.getElem?_eq_getElem hj, e]⟩
theorem va_of_el (ch : Bool) (l : List S38) : (∀ j : Int, 0 ≤ j → j < l.length → EL ch l j) → VA ch l := by
  intro h
  refine ⟨fun x hx => ?_, ?_⟩
  · obtain ⟨i, h0, h1, rfl⟩ := mem_rd hx
    exact (h i h0 h1).1
  · have h' : ∀ j : Int, 0 < j → j < l.length → ltS (rd_T38 l (j - 1)) (rd_T38 l j) = true := fun j h0 h1 => (h j (by omega) h1).2 h0
    clear h
    induction l with
    | nil => exact List.Pairwise.nil
    | cons x l ih =>
      have hs : Srt l := ih (fun j h0 h1 => by
        have := h' (j + 1) (by omega) (by simp; omega)
        rw [rd_cons (by omega), show j + 1 - 1 = (j - 1) + 1 by omega, rd_cons (by omega)] at this
        exact this)
      refine List.Pairwise.cons (fun y hy => ?_) hs
      cases l with
      | nil => cases hy
      | cons z t =>
        have hxz : ltS x z = true := by
          have := h' 1 (by omega) (by simp; omega)
          simpa [rd_T38] using this
        rcases List.mem_cons.1 hy with rfl | hy
        · exact hxz
        · exact Ord.less_trans hxz ((List.pairwise_cons.1 hs).1 y hy)
theorem el_of_va (ch : Bool) (l : List S38) (h : VA ch l) : ∀ j : Int, 0 ≤ j → j < l.length → EL ch l j := by
  intro j h0 h1
  refine ⟨h.1 _ (rd_mem h0 h1), fun hj => ?_⟩
  have := List.pairwise_iff_getElem.1 h.2 (j - 1).toNat j.toNat (by omega) (by omega) (by omega)
  simpa [rd_T38, List.getD_eq_getElem?_getD, List.getElem?_eq_getElem (show j.toNat - 1 < l.length by omega), List.getElem?_eq_getElem (show j.toNat < l.length by omega)] using this
theorem rerr_l0 (l : List S38) (ch : Bool) (hs : Small l) (d : Nat) : ∀ i : Int, 0 ≤ i → i ≤ l.length → (l.length : Int) - i = d →
    ∃ r : Int, Ev (fun k => chanceryref1_AttrsError.l0 k l ch (l.length : Int) i) r ∧ (r = 0 ↔ ∀ j : Int, i ≤ j → j < l.length → EL ch l j) := by
  induction d with
  | zero =>
    intro i h0 h1 hd
    refine ⟨0, Ev.step (f := fun _ => some 0) (fun k => ?_) (Ev.now 0), ⟨fun _ j h2 h3 => by omega, fun _ => rfl⟩⟩
    simp only [chanceryref1_AttrsError.l0]
    rw [if_neg (by omega)]
  | succ d ih =>
    intro i h0 h1 hd
    have hlt : i < (l.length : Int) := by omega
    have hsz := hs.2 _ (rd_mem h0 hlt)
    have hs1 := hs.1
    obtain ⟨b, hb, hbn⟩ := rname_ev _ hsz.1
    obtain ⟨c, hc, hcv⟩ := rval_ev _ hsz.2
    cases b with
    | false =>
      refine ⟨9, Ev.step (fun k => by simp only [chanceryref1_AttrsError.l0]; rw [if_pos hlt, if_pos h0, if_pos hlt]) (Ev.bind hb (Ev.congr (fun k => by rw [if_neg (by decide)]) (Ev.now 9))), ⟨fun h => by omega, fun h => ?_⟩⟩
      exact absurd (hbn.2 (h i (Int.le_refl _) hlt).1.1) (by decide)
    | true =>
      have hno := hbn.1 rfl
      have key : ∀ bad : Bool, (bad = false ↔ (ValOK (rd_T38 l i).f1 ∨ (ch = true ∧ (rd_T38 l i).f1.size = 0))) →
          ∃ r : Int, Ev (fun k => chanceryref1_AttrsError.j1 k l ch i (l.length : Int) i bad) r ∧ (r = 0 ↔ ∀ j : Int, i ≤ j → j < l.length → EL ch l j) := by
        intro bad hbad
        cases bad with
        | true =>
          refine ⟨23, Ev.step (fun k => by simp only [chanceryref1_AttrsError.j1]; rw [if_pos (by decide)]) (Ev.now 23), ⟨fun h => by omega, fun h => ?_⟩⟩
          exact absurd (hbad.2 (h i (Int.le_refl _) hlt).1.2) (by decide)
        | false =>
          have hel : ElOK ch (rd_T38 l i) := ⟨hno, hbad.1 rfl⟩
          obtain ⟨r, hr, hri⟩ := ih (i + 1) (by omega) (by omega) (by omega)
          by_cases hi : i > 0
          · cases hlt' : ltS (rd_T38 l (i - 1)) (rd_T38 l i) with
            | true =>
              refine ⟨r, Ev.step (fun k => by
                simp only [chanceryref1_AttrsError.j1]
                rw [if_neg (by decide), if_pos hi, wrap_dn h0 (by omega), if_pos (by omega), if_pos (by omega), if_pos h0, if_pos hlt, if_pos hlt', wrap_up h0 (by omega)]) hr, hri.trans ⟨fun h j h2 h3 => ?_, fun h j h2 h3 => h j (by omega) h3⟩⟩
              rcases Int.lt_or_eq_of_le h2 with h4 | h4
              · exact h j (by omega) h3
              · subst h4; exact ⟨hel, fun _ => hlt'⟩
            | false =>
              refine ⟨5, Ev.step (fun k => by
                simp only [chanceryref1_AttrsError.j1]
                rw [if_neg (by decide), if_pos hi, wrap_dn h0 (by omega), if_pos (by omega), if_pos (by omega), if_pos h0, if_pos hlt, if_neg (fun h => absurd (h.symm.trans hlt') (by decide))]) (Ev.now 5), ⟨fun h => by omega, fun h => ?_⟩⟩
              have := (h i (Int.le_refl _) hlt).2 hi
              rw [hlt'] at this; cases this
          · refine ⟨r, Ev.step (fun k => by
              simp only [chanceryref1_AttrsError.j1]
              rw [if_neg (by decide), if_neg hi, wrap_up h0 (by omega)]) hr, hri.trans ⟨fun h j h2 h3 => ?_, fun h j h2 h3 => h j (by omega) h3⟩⟩
            rcases Int.lt_or_eq_of_le h2 with h4 | h4
            · exact h j (by omega) h3
            · subst h4; exact ⟨hel, fun h => absurd h hi⟩
      cases c with
      | true =>
        obtain ⟨r, hr, hri⟩ := key false ⟨fun _ => .inl (hcv.1 rfl), fun _ => rfl⟩
        exact ⟨r, Ev.step (fun k => by simp only [chanceryref1_AttrsError.l0]; rw [if_pos hlt, if_pos h0, if_pos hlt]) (Ev.bind hb (Ev.congr (fun k => by rw [if_pos (by decide)]) (Ev.bind hc (Ev.congr (fun k => by rw [if_pos (by decide)]) hr)))), hri⟩
      | false =>
        have hnv : ¬ ValOK (rd_T38 l i).f1 := fun h => absurd (hcv.2 h) (by decide)
        by_cases he : (rd_T38 l i).f1.toList = []
        · obtain ⟨r, hr, hri⟩ := key (!ch) (by
            cases ch with
            | true => exact ⟨fun _ => .inr ⟨rfl, list_nil.1 he⟩, fun _ => rfl⟩
            | false => exact ⟨(fun h => by cases h), (fun h => by rcases h with h | ⟨h, _⟩; exact absurd h hnv; cases h)⟩)
          exact ⟨r, Ev.step (fun k => by simp only [chanceryref1_AttrsError.l0]; rw [if_pos hlt, if_pos h0, if_pos hlt]) (Ev.bind hb (Ev.congr (fun k => by rw [if_pos (by decide)]) (Ev.bind hc (Ev.congr (fun k => by rw [if_neg (by decide), if_pos he]) hr)))), hri⟩
        · obtain ⟨r, hr, hri⟩ := key true ⟨(fun h => by cases h), (fun h => by rcases h with h | ⟨_, h⟩; exact absurd h hnv; exact absurd (list_nil.2 h) he)⟩
          exact ⟨r, Ev.step (fun k => by simp only [chanceryref1_AttrsError.l0]; rw [if_pos hlt, if_pos h0, if_pos hlt]) (Ev.bind hb (Ev.congr (fun k => by rw [if_pos (by decide)]) (Ev.bind hc (Ev.congr (fun k => by rw [if_neg (by decide), if_neg he]) hr)))), hri⟩
theorem rerr_ev (l : List S38) (ch : Bool) (hs : Small l) : ∃ r : Int, Ev (fun k => chanceryref1_AttrsError.f k l ch) r ∧ (r = 0 ↔ VA ch l) := by
  obtain ⟨r, hr, hri⟩ := rerr_l0 l ch hs l.length 0 (by omega) (by omega) (by omega)
  exact ⟨r, hr, hri.trans ⟨va_of_el ch l, el_of_va ch l⟩⟩
theorem chk_l0 (l : List S38) (ch : Bool) (hs : Small l) (d : Nat) : ∀ i : Int, 0 ≤ i → i ≤ l.length → (l.length : Int) - i = d →
    ∃ r : Int, Ev (fun k => attr_check.l0 k l ch l (l.length : Int) i) r ∧ (r = 0 ↔ ∀ j : Int, i ≤ j → j < l.length → EL ch l j) := by
  induction d with
  | zero =>
    intro i h0 h1 hd
    refine ⟨0, Ev.step (f := fun _ => some 0) (fun k => ?_) (Ev.now 0), ⟨fun _ j h2 h3 => by omega, fun _ => rfl⟩⟩
    simp only [attr_check.l0]
    rw [if_neg (by omega)]
  | succ d ih =>
    intro i h0 h1 hd
    have hlt : i < (l.length : Int) := by omega
    have hsz := hs.2 _ (rd_mem h0 hlt)
    have hs1 := hs.1
    obtain ⟨b, hb, hbn⟩ := name_ev _ hsz.1
    obtain ⟨c, hc, hcv⟩ := val_ev _ hsz.2
    cases b with
    | false =>
      refine ⟨9, Ev.step (fun k => by simp only [attr_check.l0]; rw [if_pos hlt, if_pos h0, if_pos hlt]) (Ev.bind hb (Ev.congr (fun k => by rw [if_neg (by decide)]) (Ev.now 9))), ⟨fun h => by omega, fun h => ?_⟩⟩
      exact absurd (hbn.2 (h i (Int.le_refl _) hlt).1.1) (by decide)
    | true =>
      have hno := hbn.1 rfl
      have key : ∀ bad : Bool, (bad = false ↔ (ValOK (rd_T38 l i).f1 ∨ (ch = true ∧ (rd_T38 l i).f1.size = 0))) →
          ∃ r : Int, Ev (fun k => attr_check.j1 k l ch i l (l.length : Int) i bad (rd_T38 l i).f0 (rd_T38 l i).f1) r ∧ (r = 0 ↔ ∀ j : Int, i ≤ j → j < l.length → EL ch l j) := by
        intro bad hbad
        cases bad with
        | true =>
          refine ⟨23, Ev.step (fun k => by simp only [attr_check.j1]; rw [if_pos (by decide)]) (Ev.now 23), ⟨fun h => by omega, fun h => ?_⟩⟩
          exact absurd (hbad.2 (h i (Int.le_refl _) hlt).1.2) (by decide)
        | false =>
          have hel : ElOK ch (rd_T38 l i) := ⟨hno, hbad.1 rfl⟩
          obtain ⟨r, hr, hri⟩ := ih (i + 1) (by omega) (by omega) (by omega)
          by_cases hi : i > 0
          · cases hlt' : ltS (rd_T38 l (i - 1)) (rd_T38 l i) with
            | true =>
              refine ⟨r, Ev.step (fun k => by
                simp only [attr_check.j1]
                rw [if_neg (by decide), if_pos hi, wrap_dn h0 (by omega), if_pos (by omega), if_pos (by omega), if_pos hlt', wrap_up h0 (by omega)]) hr, hri.trans ⟨fun h j h2 h3 => ?_, fun h j h2 h3 => h j (by omega) h3⟩⟩
              rcases Int.lt_or_eq_of_le h2 with h4 | h4
              · exact h j (by omega) h3
              · subst h4; exact ⟨hel, fun _ => hlt'⟩
            | false =>
              refine ⟨5, Ev.step (fun k => by
                simp only [attr_check.j1]
                rw [if_neg (by decide), if_pos hi, wrap_dn h0 (by omega), if_pos (by omega), if_pos (by omega), if_neg (fun h => absurd (h.symm.trans hlt') (by decide))]) (Ev.now 5), ⟨fun h => by omega, fun h => ?_⟩⟩
              have := (h i (Int.le_refl _) hlt).2 hi
              rw [hlt'] at this; cases this
          · refine ⟨r, Ev.step (fun k => by
              simp only [attr_check.j1]
              rw [if_neg (by decide), if_neg hi, wrap_up h0 (by omega)]) hr, hri.trans ⟨fun h j h2 h3 => ?_, fun h j h2 h3 => h j (by omega) h3⟩⟩
            rcases Int.lt_or_eq_of_le h2 with h4 | h4
            · exact h j (by omega) h3
            · subst h4; exact ⟨hel, fun h => absurd h hi⟩
      cases c with
      | true =>
        obtain ⟨r, hr, hri⟩ := key false ⟨fun _ => .inl (hcv.1 rfl), fun _ => rfl⟩
        exact ⟨r, Ev.step (fun k => by simp only [attr_check.l0]; rw [if_pos hlt, if_pos h0, if_pos hlt]) (Ev.bind hb (Ev.congr (fun k => by rw [if_pos (by decide)]) (Ev.bind hc (Ev.congr (fun k => by rw [if_pos (by decide)]) hr)))), hri⟩
      | false =>
        have hnv : ¬ ValOK (rd_T38 l i).f1 := fun h => absurd (hcv.2 h) (by decide)
        cases ch with
        | false =>
          obtain ⟨r, hr, hri⟩ := key true ⟨(fun h => by cases h), (fun h => by rcases h with h | ⟨h, _⟩; exact absurd h hnv; cases h)⟩
          exact ⟨r, Ev.step (fun k => by simp only [attr_check.l0]; rw [if_pos hlt, if_pos h0, if_pos hlt]) (Ev.bind hb (Ev.congr (fun k => by rw [if_pos (by decide)]) (Ev.bind hc (Ev.congr (fun k => by rw [if_neg (by decide), if_neg (by decide)]; rfl) hr)))), hri⟩
        | true =>
          obtain ⟨r, hr, hri⟩ := key (!((rd_T38 l i).f1.toList == ([] : List UInt8))) (by
            by_cases he : (rd_T38 l i).f1.toList = []
            · rw [he]; exact ⟨fun _ => .inr ⟨rfl, list_nil.1 he⟩, fun _ => rfl⟩
            · exact ⟨(fun h => by simp at h; exact absurd h he), (fun h => by rcases h with h | ⟨_, h⟩; exact absurd h hnv; exact absurd (list_nil.2 h) he)⟩)
          exact ⟨r, Ev.step (fun k => by simp only [attr_check.l0]; rw [if_pos hlt, if_pos h0, if_pos hlt]) (Ev.bind hb (Ev.congr (fun k => by rw [if_pos (by decide)]) (Ev.bind hc (Ev.congr (fun k => by rw [if_neg (by decide), if_pos trivial]) hr)))), hri⟩
theorem chkc_ev (l : List S38) (hs : Small l) : ∃ r : Int, Ev (fun k => attr_CheckChange.f k l) r ∧ (r = 0 ↔ VA true l) := by
  obtain ⟨r, hr, hri⟩ := chk_l0 l true hs l.length 0 (by omega) (by omega) (by omega)
  exact ⟨r, Ev.bind (g := fun k => attr_check.f k l true) hr (Ev.now r), hri.trans ⟨va_of_el true l, el_of_va true l⟩⟩
theorem chk_ev (l : List S38) (hs : Small l) : ∃ r : Int, Ev (fun k => attr_Check.f k l) r ∧ (r = 0 ↔ VA false l) := by
  obtain ⟨r, hr, hri⟩ := chk_l0 l false hs l.length 0 (by omega) (by omega) (by omega)
  exact ⟨r, Ev.bind (g := fun k => attr_check.f k l false) hr (Ev.now r), hri.trans ⟨va_of_el false l, el_of_va false l⟩⟩
def CharOK (c : Int) : Prop := c = 9 ∨ c = 10 ∨ (32 ≤ c ∧ c ≤ 126) ∨ (160 ≤ c ∧ c ≤ 55295) ∨ (57344 ≤ c ∧ c ≤ 1114111)
instance (c : Int) : Decidable (CharOK c) := by unfold CharOK; infer_instance
theorem char_is (c : Int) : flow_Char.f c = some (decide (CharOK c)) := by
  have e : ∀ {p : Prop} [Decidable p] {b : Bool}, (p ↔ b = true) → decide p = b := fun {p} _ {b} h => by
    cases b with
    | true => exact decide_eq_true (h.2 rfl)
    | false => exact decide_eq_false (fun hp => absurd (h.1 hp) (by decide))
  unfold flow_Char.f
  repeat' split
  all_goals
    refine congrArg some (e ?_).symm
    simp only [iff_true, decide_eq_true_eq, Bool.false_eq_true, iff_false, CharOK]
    omega
theorem rin_is (c a b : Int) : chanceryref1_In.f c a b = some (decide (a ≤ c ∧ c ≤ b)) := by
  unfold chanceryref1_In.f
  by_cases h : c ≥ a
  · rw [if_pos h]
    refine congrArg some ?_
    by_cases h2 : c ≤ b
    · rw [decide_eq_true h2, decide_eq_true (by omega)]
    · rw [decide_eq_false h2, decide_eq_false (by omega)]
  · rw [if_neg h, decide_eq_false (by omega)]
theorem rchar_is (c : Int) : chanceryref1_Char.f c = some (decide (CharOK c)) := by
  unfold chanceryref1_Char.f
  rw [rin_is, rin_is, rin_is]
  simp only [Option.bind_some]
  by_cases h : CharOK c
  · rw [decide_eq_true h]
    have h' := h
    unfold CharOK at h'
    repeat' split
    all_goals first | rfl | skip
    refine congrArg some (decide_eq_true ?_)
    rename_i h1 h2 h3 h4
    rw [decide_eq_true_eq] at h3 h4
    omega
  · rw [decide_eq_false h]
    unfold CharOK at h
    rw [if_neg (by omega), if_neg (by omega), decide_eq_false (by omega), decide_eq_false (by omega), decide_eq_false (by omega)]
    rfl
def ElemOK (x : S84) : Prop := ((x.f0 = 0 ∧ 1 ≤ x.f1 ∧ x.f1 ≤ 1073741824) ∨ (x.f1 = 0 ∧ CharOK x.f0)) ∧ VA false x.f2
theorem not_char0 : ¬ CharOK 0 := by unfold CharOK; omega
theorem elem_ev (x : S84) (hs : Small x.f2) : ∃ r : Int, Ev (fun k => flow_elem.f k x.f0 x.f1 x.f2) r ∧ (r = 0 ↔ ElemOK x) := by
  obtain ⟨a, ha, hai⟩ := chk_ev x.f2 hs
  have last : Ev (fun k => (attr_Check.f k x.f2).bind fun t => some t) a := Ev.bind ha (Ev.now a)
  by_cases h0 : x.f0 = 0
  · by_cases h1 : x.f1 = 0
    · refine ⟨4, Ev.congr (fun k => ?_) (Ev.now 4), ⟨fun h => by omega, fun h => ?_⟩⟩
      · unfold flow_elem.f
        rw [h0, h1]
        rfl
      · rcases h.1 with h | h
        · omega
        · rw [h0] at h; exact absurd h.2 not_char0
    · have e : ∀ k, flow_elem.f (k + 1) x.f0 x.f1 x.f2 = if x.f1 < 1 then some 2 else if x.f1 > 1073741824 then some 2 else (attr_Check.f k x.f2).bind fun t => some t := fun k => by
        unfold flow_elem.f
        rw [h0, if_neg (by simpa using h1), if_neg h1, flow_elem.j0, if_neg (by decide), if_neg h1]
      by_cases h2 : 1 ≤ x.f1 ∧ x.f1 ≤ 1073741824
      · refine ⟨a, Ev.step (fun k => by rw [e, if_neg (by omega), if_neg (by omega)]) last, hai.trans ⟨fun h => ⟨.inl ⟨h0, h2⟩, h⟩, fun h => h.2⟩⟩
      · refine ⟨2, Ev.step (f := fun _ => some 2) (fun k => by rw [e]; split; rfl; rw [if_pos (by omega)]) (Ev.now 2), ⟨fun h => by omega, fun h => ?_⟩⟩
        rcases h.1 with h | h
        · exact absurd h.2 h2
        · exact absurd h.1 h1
  · by_cases h1 : x.f1 = 0
    · have e : ∀ k, flow_elem.f (k + 1) x.f0 x.f1 x.f2 = if decide (CharOK x.f0) = true then (attr_Check.f k x.f2).bind fun t => some t else some 2 := fun k => by
        unfold flow_elem.f
        rw [h1, if_neg (by simpa using h0), if_pos rfl, char_is, Option.bind_some, flow_elem.j0]
        cases decide (CharOK x.f0) with
        | true => rw [if_neg (show ¬ ((!true) = true) by decide), if_pos rfl, if_pos rfl]
        | false => rw [if_pos (show (!false) = true from rfl), if_neg (by decide)]
      by_cases h2 : CharOK x.f0
      · refine ⟨a, Ev.step (fun k => by rw [e, if_pos (decide_eq_true h2)]) last, hai.trans ⟨fun h => ⟨.inr ⟨h1, h2⟩, h⟩, fun h => h.2⟩⟩
      · refine ⟨2, Ev.step (f := fun _ => some 2) (fun k => by rw [e, if_neg (by rw [decide_eq_true_eq]; exact h2)]) (Ev.now 2), ⟨fun h => by omega, fun h => ?_⟩⟩
        rcases h.1 with h | h
        · exact absurd h.1 h0
        · exact absurd h.2 h2
    · refine ⟨4, Ev.congr (fun k => ?_) (Ev.now 4), ⟨fun h => by omega, fun h => ?_⟩⟩
      · have e0 : (x.f0 != 0) = true := by simpa using h0
        have e1 : (x.f1 != 0) = true := by simpa using h1
        unfold flow_elem.f
        rw [e0, e1, if_pos (show (true == true) = true from rfl)]
      · rcases h.1 with h | h
        · exact absurd h.1 h0
        · exact absurd h.1 h1
theorem relem_ev (x : S84) (hs : Small x.f2) : ∃ r : Int, Ev (fun k => chanceryref1_ElemError.f k x.f0 x.f1 x.f2) r ∧ (r = 0 ↔ ElemOK x) := by
  obtain ⟨a, ha, hai⟩ := rerr_ev x.f2 false hs
  have last : Ev (fun k => (chanceryref1_AttrsError.f k x.f2 false).bind fun t => some t) a := Ev.bind ha (Ev.now a)
  have bad : ∀ (r : Int), r ≠ 0 → ¬ ElemOK x → (∀ k, chanceryref1_ElemError.f (k + 1) x.f0 x.f1 x.f2 = some r) → ∃ r : Int, Ev (fun k => chanceryref1_ElemError.f k x.f0 x.f1 x.f2) r ∧ (r = 0 ↔ ElemOK x) :=
    fun r h1 h2 h3 => ⟨r, Ev.step (f := fun _ => some r) h3 (Ev.now r), ⟨fun h => absurd h h1, fun h => absurd h h2⟩⟩
  by_cases h0 : x.f0 = 0
  · by_cases h1 : x.f1 = 0
    · refine bad 4 (by decide) (fun h => ?_) (fun k => ?_)
      · rcases h.1 with h | h
        · omega
        · rw [h0] at h; exact absurd h.2 not_char0
      · unfold chanceryref1_ElemError.f
        rw [if_pos h0, if_pos h1, chanceryref1_ElemError.j0, if_pos rfl]
    · have e : ∀ k, chanceryref1_ElemError.f (k + 1) x.f0 x.f1 x.f2 = if decide (1 ≤ x.f1 ∧ x.f1 ≤ 1073741824) = true then (chanceryref1_AttrsError.f k x.f2 false).bind fun t => some t else some 2 := fun k => by
        unfold chanceryref1_ElemError.f
        rw [if_pos h0, if_neg h1, chanceryref1_ElemError.j0, if_neg (by decide), if_pos h0, if_neg h1, rin_is, Option.bind_some]
      by_cases h2 : 1 ≤ x.f1 ∧ x.f1 ≤ 1073741824
      · exact ⟨a, Ev.step (fun k => by rw [e, if_pos (decide_eq_true h2)]) last, hai.trans ⟨fun h => ⟨.inl ⟨h0, h2⟩, h⟩, fun h => h.2⟩⟩
      · refine bad 2 (by decide) (fun h => ?_) (fun k => by rw [e, if_neg (by rw [decide_eq_true_eq]; exact h2)])
        rcases h.1 with h | h
        · exact absurd h.2 h2
        · exact absurd h.1 h1
  · by_cases h1 : x.f1 = 0
    · have e : ∀ k, chanceryref1_ElemError.f (k + 1) x.f0 x.f1 x.f2 = if decide (CharOK x.f0) = true then (chanceryref1_AttrsError.f k x.f2 false).bind fun t => some t else some 2 := fun k => by
        unfold chanceryref1_ElemError.f
        rw [if_neg h0, chanceryref1_ElemError.j0, if_neg (by simp [h1]), if_neg h0, rchar_is, Option.bind_some, if_pos h1]
      by_cases h2 : CharOK x.f0
      · exact ⟨a, Ev.step (fun k => by rw [e, if_pos (decide_eq_true h2)]) last, hai.trans ⟨fun h => ⟨.inr ⟨h1, h2⟩, h⟩, fun h => h.2⟩⟩
      · refine bad 2 (by decide) (fun h => ?_) (fun k => by rw [e, if_neg (by rw [decide_eq_true_eq]; exact h2)])
        rcases h.1 with h | h
        · exact absurd h.1 h0
        · exact absurd h.2 h2
    · refine bad 4 (by decide) (fun h => ?_) (fun k => ?_)
      · rcases h.1 with h | h
        · exact absurd h.1 h0
        · exact absurd h.1 h1
      · unfold chanceryref1_ElemError.f
        rw [if_neg h0, chanceryref1_ElemError.j0, if_pos (by simp [h1])]
def FSmall (f : List S84) : Prop := f.length ≤ 1073741824 ∧ ∀ x ∈ f, Small x.f2 ∧ x.f2.length ≤ 1073741824
theorem rdf_mem {l : List S84} {i : Int} (h0 : 0 ≤ i) (h : i < l.length) : rd_T84 l i ∈ l := by
  have : i.toNat < l.length := by omega
  simp only [rd_T84, List.getD_eq_getElem?_getD, List.getElem?_eq_getElem this, Option.getD_some]
  exact List.getElem_mem this
theorem memf_rd {l : List S84} {x : S84} (h : x ∈ l) : ∃ i : Int, 0 ≤ i ∧ i < l.length ∧ rd_T84 l i = x := by
  obtain ⟨j, hj, e⟩ := List.getElem_of_mem h
  exact ⟨(j : Int), by omega, by omega, by simp [rd_T84, List.getD_eq_getElem?_getD, List.getElem?_eq_getElem hj, e]⟩
def POK (f : List S84) : Prop := ∀ j : Int, 0 ≤ j → j < f.length → ElemOK (rd_T84 f j)
theorem part_l0 (f : List S84) (hs : FSmall f) (d : Nat) : ∀ i : Int, 0 ≤ i → i ≤ f.length → (f.length : Int) - i = d →
    ∃ r : Int, Ev (fun k => flow_CheckPart.l0 k f (f.length : Int) i) r ∧ (r = 0 ↔ ∀ j : Int, i ≤ j → j < f.length → ElemOK (rd_T84 f j)) := by
  induction d with
  | zero =>
    intro i h0 h1 hd
    refine ⟨0, Ev.step (f := fun _ => some 0) (fun k => ?_) (Ev.now 0), ⟨fun _ j h2 h3 => by omega, fun _ => rfl⟩⟩
    simp only [flow_CheckPart.l0]
    rw [if_neg (by omega)]
  | succ d ih =>
    intro i h0 h1 hd
    have hlt : i < (f.length : Int) := by omega
    have hs1 := hs.1
    obtain ⟨e, he, hei⟩ := elem_ev (rd_T84 f i) (hs.2 _ (rdf_mem h0 hlt)).1
    obtain ⟨r, hr, hri⟩ := ih (i + 1) (by omega) (by omega) (by omega)
    by_cases hz : e = 0
    · subst hz
      refine ⟨r, Ev.step (fun k => by simp only [flow_CheckPart.l0]; rw [if_pos hlt, if_pos h0, if_pos hlt, wrap_up h0 (by omega)]) (Ev.bind he (Ev.congr (fun k => by rw [if_pos rfl]) hr)), hri.trans ⟨fun h j h2 h3 => ?_, fun h j h2 h3 => h j (by omega) h3⟩⟩
      rcases Int.lt_or_eq_of_le h2 with h4 | h4
      · exact h j (by omega) h3
      · subst h4; exact hei.1 rfl
    · refine ⟨e, Ev.step (fun k => by simp only [flow_CheckPart.l0]; rw [if_pos hlt, if_pos h0, if_pos hlt]) (Ev.bind he (Ev.congr (fun k => by rw [if_neg hz]) (Ev.now e))), ⟨fun h => absurd h hz, fun h => ?_⟩⟩
      exact hei.2 (h i (Int.le_refl _) hlt)
theorem part_ev (f : List S84) (hs : FSmall f) : ∃ r : Int, Ev (fun k => flow_CheckPart.f k f) r ∧ (r = 0 ↔ POK f) := part_l0 f hs f.length 0 (by omega) (by omega) (by omega)
theorem rpart_l0 (f : List S84) (hs : FSmall f) (d : Nat) : ∀ i : Int, 0 ≤ i → i ≤ f.length → (f.length : Int) - i = d →
    ∃ r : Int, Ev (fun k => chanceryref1_PartError.l0 k f (f.length : Int) i) r ∧ (r = 0 ↔ ∀ j : Int, i ≤ j → j < f.length → ElemOK (rd_T84 f j)) := by
  induction d with
  | zero =>
    intro i h0 h1 hd
    refine ⟨0, Ev.step (f := fun _ => some 0) (fun k => ?_) (Ev.now 0), ⟨fun _ j h2 h3 => by omega, fun _ => rfl⟩⟩
    simp only [chanceryref1_PartError.l0]
    rw [if_neg (by omega)]
  | succ d ih =>
    intro i h0 h1 hd
    have hlt : i < (f.length : Int) := by omega
    have hs1 := hs.1
    obtain ⟨e, he, hei⟩ := relem_ev (rd_T84 f i) (hs.2 _ (rdf_mem h0 hlt)).1
    obtain ⟨r, hr, hri⟩ := ih (i + 1) (by omega) (by omega) (by omega)
    by_cases hz : e = 0
    · subst hz
      refine ⟨r, Ev.step (fun k => by simp only [chanceryref1_PartError.l0]; rw [if_pos hlt, if_pos h0, if_pos hlt, wrap_up h0 (by omega)]) (Ev.bind he (Ev.congr (fun k => by rw [if_pos rfl]) hr)), hri.trans ⟨fun h j h2 h3 => ?_, fun h j h2 h3 => h j (by omega) h3⟩⟩
      rcases Int.lt_or_eq_of_le h2 with h4 | h4
      · exact h j (by omega) h3
      · subst h4; exact hei.1 rfl
    · refine ⟨e, Ev.step (fun k => by simp only [chanceryref1_PartError.l0]; rw [if_pos hlt, if_pos h0, if_pos hlt]) (Ev.bind he (Ev.congr (fun k => by rw [if_neg hz]) (Ev.now e))), ⟨fun h => absurd h hz, fun h => ?_⟩⟩
      exact hei.2 (h i (Int.le_refl _) hlt)
theorem rpart_ev (f : List S84) (hs : FSmall f) : ∃ r : Int, Ev (fun k => chanceryref1_PartError.f k f) r ∧ (r = 0 ↔ POK f) := rpart_l0 f hs f.length 0 (by omega) (by omega) (by omega)
theorem copy_l0 (f : List S84) (hs : FSmall f) (d : Nat) : ∀ (i : Nat), i + d = f.length → Ev (fun k => flow_Copy.l0 k (f.take i ++ List.replicate (f.length - i) z84) f (f.length : Int) (i : Int)) f := by
  induction d with
  | zero =>
    intro i hi
    refine Ev.step (f := fun _ => some f) (fun k => ?_) (Ev.now f)
    simp only [flow_Copy.l0]
    rw [if_neg (by omega), show i = f.length by omega]
    simp
  | succ d ih =>
    intro i hi
    have hs1 := hs.1
    have hlt : (i : Int) < (f.length : Int) := by omega
    refine Ev.step (fun k => ?_) (ih (i + 1) (by omega))
    have hlen : (f.take i ++ List.replicate (f.length - i) z84).length = f.length := by simp; omega
    have hx : rd_T84 f (i : Int) = f[i]'(by omega) := by
      simp [rd_T84, List.getD_eq_getElem?_getD, List.getElem?_eq_getElem (show i < f.length by omega)]
    have h2 := (hs.2 _ (rdf_mem (l := f) (i := (i : Int)) (by omega) hlt)).2
    simp only [flow_Copy.l0]
    rw [if_pos hlt, if_pos (by omega), if_pos hlt, if_pos (by simp; omega), if_pos (by rw [hlen]; exact hlt), wrap_up (by omega) (by omega), show ((i : Int) + 1) = ((i + 1 : Nat) : Int) from by omega]
    have hset : (f.take i ++ List.replicate (f.length - i) z84).set (i : Int).toNat (⟨(rd_T84 f (i : Int)).f0, (rd_T84 f (i : Int)).f1, ([] : List S38) ++ (rd_T84 f (i : Int)).f2⟩ : S84) = f.take (i + 1) ++ List.replicate (f.length - (i + 1)) z84 := by
      rw [List.nil_append, Int.toNat_natCast]
      have hn : f.length - i = (f.length - (i + 1)) + 1 := by omega
      rw [hn, List.replicate_succ, List.set_append_right _ _ (by simp; omega)]
      have : i - (f.take i).length = 0 := by simp; omega
      have ht : f.take (i + 1) = f.take i ++ [f[i]'(by omega)] := by
        rw [List.take_add_one, List.getElem?_eq_getElem (show i < f.length by omega)]
        rfl
      rw [this, List.set_cons_zero, hx, ht, List.append_assoc]
      rfl
    rw [hset]
theorem copy_ev (f : List S84) (hs : FSmall f) : Ev (fun k => flow_Copy.f k f) f := by
  have hs1 := hs.1
  refine Ev.congr (fun k => ?_) (copy_l0 f hs f.length 0 (by omega))
  unfold flow_Copy.f
  rw [if_pos (by omega), if_pos (by omega)]
  simp
theorem same_attrs (l : List S38) (hs : l.length ≤ 1099511627776) (d : Nat) : ∀ i : Int, 0 ≤ i → (l.length : Int) - i = d → Ev (fun k => chanceryref1_SameAttrs.l0 k l l (l.length : Int) i) true := by
  induction d with
  | zero =>
    intro i h0 hd
    refine Ev.step (f := fun _ => some true) (fun k => ?_) (Ev.now true)
    simp only [chanceryref1_SameAttrs.l0]
    rw [if_neg (by omega)]
  | succ d ih =>
    intro i h0 hd
    refine Ev.step (fun k => ?_) (ih (i + 1) (by omega) (by omega))
    simp only [chanceryref1_SameAttrs.l0]
    rw [if_pos (by omega), if_pos h0, if_pos (by omega), if_pos (by omega), if_neg (by simp), wrap_up h0 (by omega)]
theorem same_attrs_ev (l : List S38) (hs : l.length ≤ 1099511627776) : Ev (fun k => chanceryref1_SameAttrs.f k l l) true :=
  Ev.congr (fun k => by unfold chanceryref1_SameAttrs.f; rw [if_pos rfl]) (same_attrs l hs l.length 0 (by omega) (by omega))
theorem same_elem_ev (x : S84) (hs : Small x.f2) : Ev (fun k => chanceryref1_SameElem.f k x.f0 x.f1 x.f2 x.f0 x.f1 x.f2) true :=
  Ev.congr (fun k => by unfold chanceryref1_SameElem.f; rw [if_pos rfl, if_pos rfl]) (Ev.bind (same_attrs_ev x.f2 hs.1) (Ev.now true))
theorem same_flow (f : List S84) (hs : FSmall f) (d : Nat) : ∀ i : Int, 0 ≤ i → (f.length : Int) - i = d → Ev (fun k => chanceryref1_SameFlow.l0 k f f (f.length : Int) i) true := by
  have hs1 := hs.1
  induction d with
  | zero =>
    intro i h0 hd
    refine Ev.step (f := fun _ => some true) (fun k => ?_) (Ev.now true)
    simp only [chanceryref1_SameFlow.l0]
    rw [if_neg (by omega)]
  | succ d ih =>
    intro i h0 hd
    have hlt : i < (f.length : Int) := by omega
    refine Ev.step (f := fun k => (chanceryref1_SameElem.f k (rd_T84 f i).f0 (rd_T84 f i).f1 (rd_T84 f i).f2 (rd_T84 f i).f0 (rd_T84 f i).f1 (rd_T84 f i).f2).bind fun t => if t = true then chanceryref1_SameFlow.l0 k f f (f.length : Int) (wrap64 (i + 1)) else some false) (fun k => ?_)
      (Ev.bind (same_elem_ev (rd_T84 f i) (hs.2 _ (rdf_mem h0 hlt)).1) (Ev.congr (fun k => ?_) (ih (i + 1) (by omega) (by omega))))
    · simp only [chanceryref1_SameFlow.l0]
      rw [if_pos hlt, if_pos h0, if_pos hlt, if_pos hlt]
    · rw [if_pos rfl, wrap_up h0 (by omega)]
theorem same_flow_ev (f : List S84) (hs : FSmall f) : Ev (fun k => chanceryref1_SameFlow.f k f f) true :=
  Ev.congr (fun k => by unfold chanceryref1_SameFlow.f; rw [if_pos rfl]) (same_flow f hs f.length 0 (by omega) (by omega))
theorem within_ev (v hi : Int) (h1 : 0 ≤ hi) (h2 : hi ≤ 1099511627776) : ∃ r, chanceryref1_Within.f v 0 hi = some r ∧ 0 ≤ r ∧ r ≤ hi := by
  have wm : ∀ {i : Int}, 0 ≤ i → i ≤ 4611686018427387904 → wrap64 i = i := fun {i} a b => by unfold wrap64; omega
  unfold chanceryref1_Within.f
  rw [show wrap64 (hi - 0) = hi - 0 from wm (by omega) (by omega), show wrap64 (hi - 0 + 1) = hi - 0 + 1 from wm (by omega) (by omega), if_neg (by omega)]
  obtain ⟨n, hn⟩ : ∃ n, n = hi - 0 + 1 := ⟨_, rfl⟩
  rw [← hn]
  refine ⟨_, rfl, ?_⟩
  have h3 : -n < Int.tmod v n ∧ Int.tmod v n < n := ⟨Int.lt_tmod_of_pos v (by omega), Int.tmod_lt_of_pos v (by omega)⟩
  have h4 : wrap64 (Int.tmod v n + n) = Int.tmod v n + n := wm (by omega) (by omega)
  rw [h4]
  have h5 : 0 ≤ Int.tmod (Int.tmod v n + n) n := Int.tmod_nonneg _ (by omega)
  have h6 : Int.tmod (Int.tmod v n + n) n < n := Int.tmod_lt_of_pos _ (by omega)
  rw [wm (by omega) (by omega)]
  omega
abbrev Bs := List UInt8
def look : List S38 → Bs → Option Bs
  | [], _ => none
  | x :: l, n => if x.f0.toList = n then some x.f1.toList else look l n
theorem look_none {l : List S38} {n : Bs} (h : ∀ x ∈ l, x.f0.toList ≠ n) : look l n = none := by
  induction l with
  | nil => rfl
  | cons x l ih => rw [look, if_neg (h x List.mem_cons_self), ih (fun y hy => h y (List.mem_cons_of_mem _ hy))]
theorem look_above {l : List S38} {n : Bs} (h : ∀ x ∈ l, Op.bytesLess n x.f0.toList = true) : look l n = none :=
  look_none (fun x hx e => by have := h x hx; rw [e, Ord.less_irrefl] at this; cases this)
theorem look_mem {l : List S38} {x : S38} (hs : Srt l) (h : x ∈ l) : look l x.f0.toList = some x.f1.toList := by
  induction l with
  | nil => cases h
  | cons y l ih =>
    obtain ⟨h1, h2⟩ := List.pairwise_cons.1 hs
    rcases List.mem_cons.1 h with rfl | h
    · rw [look, if_pos rfl]
    · rw [look, if_neg (fun e => by have := h1 x h; unfold ltS at this; rw [e, Ord.less_irrefl] at this; cases this), ih h2 h]
theorem look_some {l : List S38} {n v : Bs} (h : look l n = some v) : ∃ x ∈ l, x.f0.toList = n ∧ x.f1.toList = v := by
  induction l with
  | nil => cases h
  | cons y l ih =>
    rw [look] at h
    by_cases e : y.f0.toList = n
    · rw [if_pos e] at h
      exact ⟨y, List.mem_cons_self, e, Option.some.inj h⟩
    · rw [if_neg e] at h
      obtain ⟨x, hx, h1⟩ := ih h
      exact ⟨x, List.mem_cons_of_mem _ hx, h1⟩
theorem s38_ext {x y : S38} (h0 : x.f0.toList = y.f0.toList) (h1 : x.f1.toList = y.f1.toList) : x = y := by
  cases x; cases y
  cases ba_ext h0
  cases ba_ext h1
  rfl
theorem look_ext {l l' : List S38} (h : Srt l) (h' : Srt l') (e : ∀ n, look l n = look l' n) : l = l' := by
  induction l generalizing l' with
  | nil =>
    cases l' with
    | nil => rfl
    | cons y t => have := e y.f0.toList; rw [look_mem h' List.mem_cons_self] at this; cases this
  | cons x t ih =>
    cases l' with
    | nil => have := e x.f0.toList; rw [look_mem h List.mem_cons_self] at this; cases this
    | cons y t' =>
      obtain ⟨h1, h2⟩ := List.pairwise_cons.1 h
      obtain ⟨h1', h2'⟩ := List.pairwise_cons.1 h'
      have hxy : x.f0.toList = y.f0.toList := by
        refine Ord.less_total ?_ ?_
        · cases hl : Op.bytesLess x.f0.toList y.f0.toList with
          | false => rfl
          | true =>
            have := e x.f0.toList
            rw [look_mem h List.mem_cons_self, look_above (l := y :: t') (fun z hz => by rcases List.mem_cons.1 hz with rfl | hz; exact hl; exact Ord.less_trans hl (h1' z hz))] at this
            cases this
        · cases hl : Op.bytesLess y.f0.toList x.f0.toList with
          | false => rfl
          | true =>
            have := e y.f0.toList
            rw [look_mem h' List.mem_cons_self, look_above (l := x :: t) (fun z hz => by rcases List.mem_cons.1 hz with rfl | hz; exact hl; exact Ord.less_trans hl (h1 z hz))] at this
            cases this
      have hv : x.f1.toList = y.f1.toList := by
        have := e x.f0.toList
        rw [look_mem h List.mem_cons_self, hxy, look_mem h' List.mem_cons_self] at this
        exact Option.some.inj this
      rw [s38_ext hxy hv]
      congr 1
      refine ih h2 h2' (fun n => ?_)
      by_cases hn : x.f0.toList = n
      · rw [look_above (l := t) (fun z hz => by rw [← hn]; exact h1 z hz), look_above (l := t') (fun z hz => by rw [← hn, hxy]; exact h1' z hz)]
      · have := e n
        rw [look, look, if_neg hn, if_neg (by rw [← hxy]; exact hn)] at this
        exact this
def mrg (E : S38 → S38 → Option S38) : List S38 → List S38 → List S38
  | [], [] => []
  | x :: a, [] => (E x nil38).toList ++ mrg E a []
  | [], y :: b => (E nil38 y).toList ++ mrg E [] b
  | x :: a, y :: b => if ltS x y = true then (E x nil38).toList ++ mrg E a (y :: b) else if ltS y x = true then (E nil38 y).toList ++ mrg E (x :: a) b else (E x y).toList ++ mrg E a b
termination_by a b => a.length + b.length
theorem bothL_mrg (V : List S38 → S38 → S38 → List S38) (E : S38 → S38 → Option S38) (h : ∀ o x y, V o x y = o ++ (E x y).toList) : ∀ (a b o : List S38), bothL V o a b = o ++ mrg E a b := by
  intro a b
  induction a, b using mrg.induct with
  | case1 => intro o; rw [bothL, mrg, List.append_nil]
  | case2 x a ih => intro o; rw [bothL, mrg, ih, h]; exact List.append_assoc _ _ _
  | case3 y b ih => intro o; rw [bothL, mrg, ih, h]; exact List.append_assoc _ _ _
  | case4 x a y b hlt ih => intro o; rw [bothL, mrg, if_pos hlt, if_pos hlt, ih, h]; exact List.append_assoc _ _ _
  | case5 x a y b hlt hlt' ih => intro o; rw [bothL, mrg, if_neg hlt, if_neg hlt, if_pos hlt', if_pos hlt', ih, h]; exact List.append_assoc _ _ _
  | case6 x a y b hlt hlt' ih => intro o; rw [bothL, mrg, if_neg hlt, if_neg hlt, if_neg hlt', if_neg hlt', ih, h]; exact List.append_assoc _ _ _
structure Tells (E : S38 → S38 → Option S38) (F : Option Bs → Option Bs → Option Bs) : Prop where
  nil : F none none = none
  left : ∀ x, x.f0.toList ≠ [] → (∀ z, E x nil38 = some z → z.f0 = x.f0) ∧ (E x nil38).map (·.f1.toList) = F (some x.f1.toList) none
  right : ∀ y, y.f0.toList ≠ [] → (∀ z, E nil38 y = some z → z.f0 = y.f0) ∧ (E nil38 y).map (·.f1.toList) = F none (some y.f1.toList)
  mid : ∀ x y, x.f0.toList = y.f0.toList → x.f0.toList ≠ [] → (∀ z, E x y = some z → z.f0 = x.f0) ∧ (E x y).map (·.f1.toList) = F (some x.f1.toList) (some y.f1.toList)
def Named (l : List S38) : Prop := ∀ x ∈ l, x.f0.toList ≠ []
theorem look_opt {o : Option S38} {l : List S38} {n : Bs} {nm : ByteArray} {v : Option Bs} (h : ∀ z, o = some z → z.f0 = nm) (hv : o.map (·.f1.toList) = v) (hl : look l nm.toList = Option.none) :
    look (o.toList ++ l) n = if nm.toList = n then v else look l n := by
  cases o with
  | none =>
    have : v = Option.none := hv.symm
    subst this
    by_cases e : nm.toList = n
    · rw [if_pos e]; show look l n = _; rw [← e]; exact hl
    · rw [if_neg e]; rfl
  | some z =>
    have hz := h z rfl
    have : v = some z.f1.toList := hv.symm
    subst this
    show look (z :: l) n = _
    rw [look, hz]
theorem mrg_spec {E : S38 → S38 → Option S38} {F : Option Bs → Option Bs → Option Bs} (T : Tells E F) : ∀ (a b : List S38), Srt a → Srt b → Named a → Named b →
    Srt (mrg E a b) ∧ (∀ n, look (mrg E a b) n = F (look a n) (look b n)) ∧ (∀ z ∈ mrg E a b, (∃ x ∈ a, z.f0 = x.f0) ∨ (∃ y ∈ b, z.f0 = y.f0)) := by
  have step : ∀ (o : Option S38) (l : List S38) (nm : ByteArray) (v : Option Bs), (∀ z, o = some z → z.f0 = nm) → (∀ z ∈ l, Op.bytesLess nm.toList z.f0.toList = true) → Srt l → Srt (o.toList ++ l) := by
    intro o l nm v h hl hs
    cases o with
    | none => exact hs
    | some z =>
      refine List.Pairwise.cons (fun y hy => ?_) hs
      show Op.bytesLess z.f0.toList _ = true
      rw [h z rfl]
      exact hl y hy
  intro a b
  induction a, b using mrg.induct with
  | case1 => intro _ _ _ _; rw [mrg]; exact ⟨List.Pairwise.nil, fun n => T.nil.symm, fun z hz => by cases hz⟩
  | case2 x a ih =>
    intro ha hb na nb
    obtain ⟨h1, h2⟩ := List.pairwise_cons.1 ha
    obtain ⟨i1, i2, i3⟩ := ih h2 hb (fun z hz => na z (List.mem_cons_of_mem _ hz)) nb
    obtain ⟨e1, e2⟩ := T.left x (na x List.mem_cons_self)
    have hab : ∀ z ∈ mrg E a [], Op.bytesLess x.f0.toList z.f0.toList = true := fun z hz => by
      rcases i3 z hz with ⟨u, hu, e⟩ | ⟨u, hu, e⟩
      · rw [e]; exact h1 u hu
      · cases hu
    rw [mrg]
    refine ⟨step _ _ x.f0 none e1 hab i1, fun n => ?_, fun z hz => ?_⟩
    · rw [look_opt e1 e2 (look_above hab), i2 n]
      by_cases e : x.f0.toList = n
      · rw [if_pos e, show look (x :: a) n = some x.f1.toList by rw [look, if_pos e]]; rfl
      · rw [if_neg e, show look (x :: a) n = look a n by rw [look, if_neg e]]
    · rcases List.mem_append.1 hz with hz | hz
      · exact .inl ⟨x, List.mem_cons_self, e1 z (by simpa using hz)⟩
      · rcases i3 z hz with ⟨u, hu, e⟩ | h
        · exact .inl ⟨u, List.mem_cons_of_mem _ hu, e⟩
        · exact .inr h
  | case3 y b ih =>
    intro ha hb na nb
    obtain ⟨h1, h2⟩ := List.pairwise_cons.1 hb
    obtain ⟨i1, i2, i3⟩ := ih ha h2 na (fun z hz => nb z (List.mem_cons_of_mem _ hz))
    obtain ⟨e1, e2⟩ := T.right y (nb y List.mem_cons_self)
    have hab : ∀ z ∈ mrg E [] b, Op.bytesLess y.f0.toList z.f0.toList = true := fun z hz => by
      rcases i3 z hz with ⟨u, hu, e⟩ | ⟨u, hu, e⟩
      · cases hu
      · rw [e]; exact h1 u hu
    rw [mrg]
    refine ⟨step _ _ y.f0 none e1 hab i1, fun n => ?_, fun z hz => ?_⟩
    · rw [look_opt e1 e2 (look_above hab), i2 n]
      by_cases e : y.f0.toList = n
      · rw [if_pos e, show look (y :: b) n = some y.f1.toList by rw [look, if_pos e]]; rfl
      · rw [if_neg e, show look (y :: b) n = look b n by rw [look, if_neg e]]
    · rcases List.mem_append.1 hz with hz | hz
      · exact .inr ⟨y, List.mem_cons_self, e1 z (by simpa using hz)⟩
      · rcases i3 z hz with h | ⟨u, hu, e⟩
        · exact .inl h
        · exact .inr ⟨u, List.mem_cons_of_mem _ hu, e⟩
  | case4 x a y b hlt ih =>
    intro ha hb na nb
    obtain ⟨h1, h2⟩ := List.pairwise_cons.1 ha
    obtain ⟨h1', h2'⟩ := List.pairwise_cons.1 hb
    obtain ⟨i1, i2, i3⟩ := ih h2 hb (fun z hz => na z (List.mem_cons_of_mem _ hz)) nb
    obtain ⟨e1, e2⟩ := T.left x (na x List.mem_cons_self)
    have hyb : ∀ z ∈ y :: b, Op.bytesLess x.f0.toList z.f0.toList = true := fun z hz => by
      rcases List.mem_cons.1 hz with rfl | hz
      · exact hlt
      · exact Ord.less_trans hlt (h1' z hz)
    have hab : ∀ z ∈ mrg E a (y :: b), Op.bytesLess x.f0.toList z.f0.toList = true := fun z hz => by
      rcases i3 z hz with ⟨u, hu, e⟩ | ⟨u, hu, e⟩
      · rw [e]; exact h1 u hu
      · rw [e]; exact hyb u hu
    rw [mrg, if_pos hlt]
    refine ⟨step _ _ x.f0 none e1 hab i1, fun n => ?_, fun z hz => ?_⟩
    · rw [look_opt e1 e2 (look_above hab), i2 n]
      by_cases e : x.f0.toList = n
      · rw [if_pos e]
        rw [show look (x :: a) n = some x.f1.toList by rw [look, if_pos e], look_above (l := y :: b) (by rw [← e]; exact hyb)]
      · rw [if_neg e]
        rw [show look (x :: a) n = look a n by rw [look, if_neg e]]
    · rcases List.mem_append.1 hz with hz | hz
      · exact .inl ⟨x, List.mem_cons_self, e1 z (by simpa using hz)⟩
      · rcases i3 z hz with ⟨u, hu, e⟩ | h
        · exact .inl ⟨u, List.mem_cons_of_mem _ hu, e⟩
        · exact .inr h
  | case5 x a y b hlt hlt' ih =>
    intro ha hb na nb
    obtain ⟨h1, h2⟩ := List.pairwise_cons.1 ha
    obtain ⟨h1', h2'⟩ := List.pairwise_cons.1 hb
    obtain ⟨i1, i2, i3⟩ := ih ha h2' na (fun z hz => nb z (List.mem_cons_of_mem _ hz))
    obtain ⟨e1, e2⟩ := T.right y (nb y List.mem_cons_self)
    have hxa : ∀ z ∈ x :: a, Op.bytesLess y.f0.toList z.f0.toList = true := fun z hz => by
      rcases List.mem_cons.1 hz with rfl | hz
      · exact hlt'
      · exact Ord.less_trans hlt' (h1 z hz)
    have hab : ∀ z ∈ mrg E (x :: a) b, Op.bytesLess y.f0.toList z.f0.toList = true := fun z hz => by
      rcases i3 z hz with ⟨u, hu, e⟩ | ⟨u, hu, e⟩
      · rw [e]; exact hxa u hu
      · rw [e]; exact h1' u hu
    rw [mrg, if_neg hlt, if_pos hlt']
    refine ⟨step _ _ y.f0 none e1 hab i1, fun n => ?_, fun z hz => ?_⟩
    · rw [look_opt e1 e2 (look_above hab), i2 n]
      by_cases e : y.f0.toList = n
      · rw [if_pos e]
        rw [show look (y :: b) n = some y.f1.toList by rw [look, if_pos e], look_above (l := x :: a) (by rw [← e]; exact hxa)]
      · rw [if_neg e]
        rw [show look (y :: b) n = look b n by rw [look, if_neg e]]
    · rcases List.mem_append.1 hz with hz | hz
      · exact .inr ⟨y, List.mem_cons_self, e1 z (by simpa using hz)⟩
      · rcases i3 z hz with h | ⟨u, hu, e⟩
        · exact .inl h
        · exact .inr ⟨u, List.mem_cons_of_mem _ hu, e⟩
  | case6 x a y b hlt hlt' ih =>
    intro ha hb na nb
    obtain ⟨h1, h2⟩ := List.pairwise_cons.1 ha
    obtain ⟨h1', h2'⟩ := List.pairwise_cons.1 hb
    obtain ⟨i1, i2, i3⟩ := ih h2 h2' (fun z hz => na z (List.mem_cons_of_mem _ hz)) (fun z hz => nb z (List.mem_cons_of_mem _ hz))
    have hxy : x.f0.toList = y.f0.toList := Ord.less_total (Bool.eq_false_iff.2 hlt) (Bool.eq_false_iff.2 hlt')
    obtain ⟨e1, e2⟩ := T.mid x y hxy (na x List.mem_cons_self)
    have hab : ∀ z ∈ mrg E a b, Op.bytesLess x.f0.toList z.f0.toList = true := fun z hz => by
      rcases i3 z hz with ⟨u, hu, e⟩ | ⟨u, hu, e⟩
      · rw [e]; exact h1 u hu
      · rw [e, hxy]; exact h1' u hu
    rw [mrg, if_neg hlt, if_neg hlt']
    refine ⟨step _ _ x.f0 none e1 hab i1, fun n => ?_, fun z hz => ?_⟩
    · rw [look_opt e1 e2 (look_above hab), i2 n, look, look, ← hxy]
      by_cases e : x.f0.toList = n
      · rw [if_pos e, if_pos e, if_pos e]
      · rw [if_neg e, if_neg e, if_neg e]
    · rcases List.mem_append.1 hz with hz | hz
      · exact .inl ⟨x, List.mem_cons_self, e1 z (by simpa using hz)⟩
      · rcases i3 z hz with ⟨u, hu, e⟩ | ⟨u, hu, e⟩
        · exact .inl ⟨u, List.mem_cons_of_mem _ hu, e⟩
        · exact .inr ⟨u, List.mem_cons_of_mem _ hu, e⟩
theorem mrg_len (E : S38 → S38 → Option S38) : ∀ a b : List S38, (mrg E a b).length ≤ a.length + b.length := by
  have o1 : ∀ o : Option S38, o.toList.length ≤ 1 := fun o => by cases o <;> simp
  intro a b
  induction a, b using mrg.induct with
  | case1 => rw [mrg]; simp
  | case2 x a ih => rw [mrg, List.length_append]; have := o1 (E x nil38); simp only [List.length_cons, List.length_nil] at *; omega
  | case3 y b ih => rw [mrg, List.length_append]; have := o1 (E nil38 y); simp only [List.length_cons, List.length_nil] at *; omega
  | case4 x a y b hlt ih => rw [mrg, if_pos hlt, List.length_append]; have := o1 (E x nil38); simp only [List.length_cons, List.length_nil] at *; omega
  | case5 x a y b hlt hlt' ih => rw [mrg, if_neg hlt, if_pos hlt', List.length_append]; have := o1 (E nil38 y); simp only [List.length_cons, List.length_nil] at *; omega
  | case6 x a y b hlt hlt' ih => rw [mrg, if_neg hlt, if_neg hlt', List.length_append]; have := o1 (E x y); simp only [List.length_cons] at *; omega
def rawE (x y : S38) : Option S38 := if y.f0.toList = [] then some x else if y.f1.toList = [] then none else some y
def withoutE (x y : S38) : Option S38 := if y.f0.toList = [] then some x else none
def Fr : Option Bs → Option Bs → Option Bs
  | u, none => u
  | _, some v => if v = [] then none else some v
def Fw : Option Bs → Option Bs → Option Bs
  | u, none => u
  | _, some _ => none
theorem nil_name : nil38.f0.toList = [] := list_nil.2 rfl
theorem raw_tells : Tells rawE Fr where
  nil := rfl
  left x hx := by
    have : rawE x nil38 = some x := by unfold rawE; rw [if_pos nil_name]
    rw [this]
    exact ⟨fun z hz => by rw [Option.some.inj hz], rfl⟩
  right y hy := by
    unfold rawE Fr
    rw [if_neg hy]
    by_cases e : y.f1.toList = []
    · rw [if_pos e]; exact ⟨(fun z hz => by cases hz), by simp [e]⟩
    · rw [if_neg e]; exact ⟨(fun z hz => by rw [Option.some.inj hz]), by simp [e]⟩
  mid x y h hx := by
    unfold rawE Fr
    rw [if_neg (by rw [← h]; exact hx)]
    by_cases e : y.f1.toList = []
    · rw [if_pos e]; exact ⟨(fun z hz => by cases hz), by simp [e]⟩
    · rw [if_neg e]; exact ⟨(fun z hz => by rw [← Option.some.inj hz]; exact (ba_ext h).symm), by simp [e]⟩
theorem without_tells : Tells withoutE Fw where
  nil := rfl
  left x hx := by
    unfold withoutE
    rw [if_pos nil_name]
    exact ⟨(fun z hz => by rw [Option.some.inj hz]), rfl⟩
  right y hy := by
    unfold withoutE
    rw [if_neg hy]
    exact ⟨(fun z hz => by cases hz), rfl⟩
  mid x y h hx := by
    unfold withoutE
    rw [if_neg (by rw [← h]; exact hx)]
    exact ⟨(fun z hz => by cases hz), rfl⟩
def VL (ch : Bool) (w : Bs) : Prop := ∃ s : ByteArray, s.toList = w ∧ (ValOK s ∨ (ch = true ∧ s.size = 0))
def OV (ch : Bool) (u : Option Bs) : Prop := ∀ w, u = some w → VL ch w
theorem VL.strict {ch : Bool} {w : Bs} (h : VL ch w) (hw : w ≠ []) : VL false w := by
  obtain ⟨s, e, h | ⟨_, h⟩⟩ := h
  · exact ⟨s, e, .inl h⟩
  · exact absurd (e ▸ list_nil.2 h) hw
theorem ov_look {ch : Bool} {l : List S38} (h : VA ch l) (n : Bs) : OV ch (look l n) := by
  intro w hw
  obtain ⟨x, hx, _, e⟩ := look_some hw
  exact ⟨x.f1, e, (h.1 x hx).2⟩
theorem va_named {ch : Bool} {l : List S38} (h : VA ch l) : Named l := fun x hx e => by
  have := (h.1 x hx).1.1
  have := list_nil.1 e
  omega
theorem va_mrg {E : S38 → S38 → Option S38} {F : Option Bs → Option Bs → Option Bs} (T : Tells E F) {c1 c2 ch : Bool} {a b : List S38} (ha : VA c1 a) (hb : VA c2 b)
    (hF : ∀ u v, OV c1 u → OV c2 v → OV ch (F u v)) : VA ch (mrg E a b) := by
  obtain ⟨h1, h2, h3⟩ := mrg_spec T a b ha.2 hb.2 (va_named ha) (va_named hb)
  refine ⟨fun z hz => ⟨?_, ?_⟩, h1⟩
  · rcases h3 z hz with ⟨x, hx, e⟩ | ⟨x, hx, e⟩
    · rw [e]; exact (ha.1 x hx).1
    · rw [e]; exact (hb.1 x hx).1
  · have := look_mem h1 hz
    rw [h2] at this
    obtain ⟨s, hs, hv⟩ := hF _ _ (ov_look ha _) (ov_look hb _) _ this
    rw [← ba_ext hs]
    exact hv
theorem ov_raw {c : Bool} {u v : Option Bs} (hu : OV false u) (hv : OV c v) : OV false (Fr u v) := by
  intro w hw
  cases v with
  | none => exact hu w hw
  | some v =>
    simp only [Fr] at hw
    by_cases e : v = []
    · rw [if_pos e] at hw; cases hw
    · rw [if_neg e] at hw
      obtain rfl := Option.some.inj hw
      exact (hv v rfl).strict e
theorem ov_without {u v : Option Bs} (hu : OV true u) (hv : OV true v) : OV true (Fw u v) := by
  intro w hw
  cases v with
  | none => exact hu w hw
  | some v => cases hw
theorem fold_mrg {V : List S38 → S38 → S38 → List S38} {E : S38 → S38 → Option S38} (h : ∀ o x y, V o x y = o ++ (E x y).toList) (a b : List S38) : bothL V [] a b = mrg E a b := by rw [bothL_mrg V E h, List.nil_append]
theorem rawV_E (o : List S38) (x y : S38) : rawV o x y = o ++ (rawE x y).toList := by
  unfold rawV rawE
  by_cases h1 : y.f0.toList = []
  · rw [if_pos h1, if_pos h1]; rfl
  · rw [if_neg h1, if_neg h1]
    by_cases h2 : y.f1.toList = []
    · rw [if_pos h2, if_pos h2]; exact (List.append_nil _).symm
    · rw [if_neg h2, if_neg h2]; rfl
theorem withoutV_E (o : List S38) (x y : S38) : withoutV o x y = o ++ (withoutE x y).toList := by
  unfold withoutV withoutE
  by_cases h1 : y.f0.toList = []
  · rw [if_pos h1, if_pos h1]; rfl
  · rw [if_neg h1, if_neg h1]; exact (List.append_nil _).symm
theorem raw_f {a b : List S38} (ha : a.length ≤ 1073741824) (hb : b.length ≤ 1073741824) : attr_Raw.f a b = some (mrg rawE a b) := by
  unfold attr_Raw.f; rw [if_pos (by omega), fold_mrg rawV_E]
theorem without_f {a b : List S38} (ha : a.length ≤ 1073741824) (hb : b.length ≤ 1073741824) : attr_Without.f a b = some (mrg withoutE a b) := by
  unfold attr_Without.f; rw [if_pos (by omega), fold_mrg withoutV_E]
theorem va_raw {l c : List S38} (vl : VA false l) (vc : VA true c) : VA false (mrg rawE l c) := va_mrg raw_tells vl vc (fun _ _ => ov_raw)
theorem va_without {a b : List S38} (va : VA true a) (vb : VA true b) : VA true (mrg withoutE a b) := va_mrg without_tells va vb (fun _ _ => ov_without)
theorem look_raw {l c : List S38} (vl : VA false l) (vc : VA true c) (n : Bs) : look (mrg rawE l c) n = Fr (look l n) (look c n) := (mrg_spec raw_tells l c vl.2 vc.2 (va_named vl) (va_named vc)).2.1 n
theorem look_without {a b : List S38} (va : VA true a) (vb : VA true b) (n : Bs) : look (mrg withoutE a b) n = Fw (look a n) (look b n) := (mrg_spec without_tells a b va.2 vb.2 (va_named va) (va_named vb)).2.1 n
theorem fr_one (L A B : Option Bs) : Fr (Fr L A) B = Fr (Fr L B) (Fw A B) := by cases B <;> rfl
structure Moves2 (wI w : World) (g : Nat) (vI uI v u : Value) : Prop where
  size : wI.heap.size ≤ w.heap.size
  frame : ∀ k, k < wI.heap.size → k ≠ g → some k ≠ vI.ownBlock → some k ≠ uI.ownBlock → w.heap[k]? = wI.heap[k]?
  ownv : v.ownBlock = vI.ownBlock ∨ ∃ b, v.ownBlock = some b ∧ wI.heap.size ≤ b
  ownu : u.ownBlock = uI.ownBlock ∨ u.ownBlock = none ∨ ∃ b, u.ownBlock = some b ∧ wI.heap.size ≤ b
theorem Moves2.refl (w : World) (g : Nat) (v u : Value) : Moves2 w w g v u v u := ⟨Nat.le_refl _, fun _ _ _ _ _ => rfl, .inl rfl, .inl rfl⟩
structure WrO (ok : Nat → Prop) (w0 wI : World) (g : Nat) (vI uI : Value) (out : List S70) (cut : Int) (v u : Value) (w : World) : Prop where
  ge : w0.heap.size ≤ g
  blk : w.heap[g]? = some (.cells #[v, u, .int .i64 cut] 127 (0, 0))
  row : Kd.N k70 70 w w0.heap.size (fun k => ok k ∧ k ≠ g) v out
  bel : Below w0.heap.size w0 w
  mv : Moves2 wI w g vI uI v u
structure WrD (ok : Nat → Prop) (w0 wI : World) (g : Nat) (vI uI : Value) (out : List S70) (add : List S84) (cut : Int) (v u : Value) (w : World) : Prop where
  ge : w0.heap.size ≤ g
  blk : w.heap[g]? = some (.cells #[v, u, .int .i64 cut] 127 (0, 0))
  row : Kd.N k70 70 w w0.heap.size (fun k => (ok k ∧ k ≠ g) ∧ some k ≠ u.ownBlock) v out
  radd : Kd.N k84 84 w w0.heap.size (fun k => (ok k ∧ k ≠ g) ∧ some k ≠ v.ownBlock) u add
  bel : Below w0.heap.size w0 w
  mv : Moves2 wI w g vI uI v u
section
variable {ok : Nat → Prop} {w0 wI w w1 : World} {g : Nat} {vI uI v u v1 u1 : Value} {out out' : List S70} {add add' : List S84} {cut : Int}
theorem WrD.weak (h : WrD ok w0 wI g vI uI out add cut v u w) : WrO ok w0 wI g vI uI out cut v u w := ⟨h.ge, h.blk, Kd.N_mono h.row (fun _ hk => hk.1), h.bel, h.mv⟩
theorem WrO.drew (h : WrO ok w0 wI g vI uI out cut v u w) : WrO ok w0 wI g vI uI out cut v u w.drew :=
  ⟨h.ge, blk_drew h.blk, Kd.N_drew h.row, below_drew1 h.bel, ⟨h.mv.size, h.mv.frame, h.mv.ownv, h.mv.ownu⟩⟩
theorem WrD.drew (h : WrD ok w0 wI g vI uI out add cut v u w) : WrD ok w0 wI g vI uI out add cut v u w.drew :=
  ⟨h.ge, blk_drew h.blk, Kd.N_drew h.row, Kd.N_drew h.radd, below_drew1 h.bel, ⟨h.mv.size, h.mv.frame, h.mv.ownv, h.mv.ownu⟩⟩
theorem WrD.drewN (h : WrD ok w0 wI g vI uI out add cut v u w) (n : Nat) : WrD ok w0 wI g vI uI out add cut v u (w.drewN n) :=
  ⟨h.ge, blk_drewN h.blk n, Kd.N_drewN h.row n, Kd.N_drewN h.radd n, pw_below_drewN h.bel n, ⟨h.mv.size, h.mv.frame, h.mv.ownv, h.mv.ownu⟩⟩
theorem mv_set (h : Moves2 wI w g vI uI v u) (j : Nat) (x : Value) : Moves2 wI (w.setCell ⟨g, j, none⟩ x) g vI uI v u :=
  ⟨by have := h.size; simp [World.setCell]; omega, fun k hk hgk hv hu => by rw [Below.heap_setCell _ _ _ _ hgk, h.frame k hk hgk hv hu], h.ownv, h.ownu⟩
theorem mv_app (h : Moves2 wI w g vI uI v u) (hg : w.grownBy w1 v.ownBlock) (hat : v1.ownBlock = v.ownBlock ∨ ∃ b, v1.ownBlock = some b ∧ w.heap.size ≤ b) : Moves2 wI w1 g vI uI v1 u := by
  refine ⟨Nat.le_trans h.size hg.size, fun k hk hgk hv hu => ?_, ?_, h.ownu⟩
  · rw [hg.block k (Nat.lt_of_lt_of_le hk h.size) ?_, h.frame k hk hgk hv hu]
    rcases h.ownv with e | ⟨b, e, hb⟩
    · rw [e]; exact hv
    · rw [e]; intro h'; injection h' with h'; omega
  · rcases hat with e | ⟨b, e, hb⟩
    · rw [e]; exact h.ownv
    · exact .inr ⟨b, e, Nat.le_trans h.size hb⟩
theorem WrO.app (h : WrO ok w0 wI g vI uI out cut v u w) (hR : Kd.N k70 70 w1 w0.heap.size (fun k => ok k ∧ k ≠ g) v1 out') (hB : Below w0.heap.size w0 w1) (hg : w.grownBy w1 v.ownBlock)
    (hat : v1.ownBlock = v.ownBlock ∨ ∃ b, v1.ownBlock = some b ∧ w.heap.size ≤ b) :
    w1.heap[g]? = some (.cells #[v, u, .int .i64 cut] 127 (0, 0)) ∧ WrO ok w0 wI g vI uI out' cut v1 u (w1.setCell ⟨g, 0, none⟩ v1) := by
  have hb := blk_grown h.blk hg (Kd.N_away h.row (fun _ hk => hk.2))
  exact ⟨hb, h.ge, blk_put hb 0 v1 rfl, Kd.N_far hR (fun _ hk => hk.2) v1, below_set hB h.ge, mv_set (mv_app h.mv hg hat) 0 v1⟩
theorem WrO.clear (h : WrO ok w0 wI g vI uI out cut v u w) : WrD ok w0 wI g vI uI out [] 0 v (.slice none 0 0) ((w.setCell ⟨g, 1, none⟩ (.slice none 0 0)).setCell ⟨g, 2, none⟩ (.int .i64 0)) := by
  refine ⟨h.ge, blk_put (blk_put h.blk 1 (.slice none 0 0) rfl) 2 (.int .i64 0) rfl, Kd.N_mono (Kd.N_far (Kd.N_far h.row (fun _ hk => hk.2) _) (fun _ hk => hk.2) _) (fun k hk => ⟨hk, by simp [Value.ownBlock]⟩), Kd.N_nil _ _ _ _ _, below_set (below_set h.bel h.ge) h.ge, ?_⟩
  have m := mv_set (mv_set h.mv 1 (.slice none 0 0)) 2 (.int .i64 0)
  exact ⟨m.size, m.frame, m.ownv, .inr (.inl rfl)⟩
end
def addD (out : List S70) (add : List S84) : List S70 := if 0 < add.length then out ++ [⟨1, 0, [], add⟩] else out
def cutD (out : List S70) (cut : Int) : List S70 := if 0 < cut then out ++ [⟨2, cut, [], []⟩] else out
def flushD (out : List S70) (add : List S84) (cut : Int) : List S70 := cutD (addD out add) cut
set_option maxRecDepth 100000 in
set_option maxHeartbeats 8000000 in
theorem flush_calls (ok : Nat → Prop) (w0 : World) (g : Nat) (out : List S70) (add : List S84) (cut : Int) (vI uI : Value) (w : World) (h : WrD ok w0 w g vI uI out add cut vI uI w) (hok : ∀ k, w.heap.size ≤ k → ok k) (hl : (out.length + 2) * 64 ≤ 140737488355328) :
    Calls Try.prog 110 #[.pointer (some ⟨g, 0, none⟩)] w fun e w' => e = .returned (.tuple #[]) ∧ ∃ v, WrD ok w0 w g vI uI (flushD out add cut) [] 0 v (.slice none 0 0) w' := by
  have hu70 := Try.underlying70
  have hu127 := Try.underlying127
  obtain ⟨AI, cI, hvI⟩ := Kd.N_slice h.row
  obtain ⟨BI, dI, huI⟩ := Kd.N_slice h.radd
  subst hvI
  subst huI
  have HS := Aside0.mk h
  have HO := Aside0.mk hok
  have HL := Aside0.mk hl
  clear h hok hl
  obtain ⟨ta, hta⟩ : ∃ t : Bool, decide (0 < (add.length : Int)) = t := ⟨_, rfl⟩
  have hta2 : decide (0 < add.length) = ta := by rw [← hta]; exact decide_eq_decide.mpr (by omega)
  have hc0 : w.cell? ⟨g, 0, none⟩ = some (.slice AI out.length cI) := (blk_cell HS.out.blk 0).trans rfl
  have hc1 : w.cell? ⟨g, 1, none⟩ = some (.slice BI add.length dI) := (blk_cell HS.out.blk 1).trans rfl
  have hc2 : w.cell? ⟨g, 2, none⟩ = some (.int .i64 cut) := (blk_cell HS.out.blk 2).trans rfl
  go_enter Try.func110, Try.ntmps110
  go_upto_if 7 with (fail)
  go_cut [] (fun wc => ∃ (A1 : Option Addr) (n1 : Nat), Aside0 (WrO ok w0 w g (.slice AI out.length cI) (.slice BI add.length dI) (addD out add) cut (.slice A1 (addD out add).length n1) (.slice BI add.length dI) wc))
  case first =>
    cases ta with
    | false =>
      have hadd := of_decide_eq_false hta2
      have e : addD out add = out := if_neg hadd
      go_wp2
      go_meet
      case rel => exact ⟨AI, cI, ⟨by rw [e]; exact HS.out.weak⟩⟩
    | true =>
      have hadd := of_decide_eq_true hta2
      have e : addD out add = out ++ [⟨1, 0, [], add⟩] := if_pos hadd
      have HE := Aside0.mk e
      clear hadd e
      have HD := Aside0.mk HS.out.drew
      have HDO := Aside0.mk HS.out.weak.drew
      go_upto_region 1 with (fail)
      refine start_ (n := 15) (S := fun w' => w'.cell? ⟨g, 0, none⟩ = some (.slice AI out.length cI) ∧ w'.cell? ⟨g, 1, none⟩ = some (.slice BI add.length dI)) (ds := [14]) #[false, false, false, false, false, false, false, false, false, false, false, false, false, false, false] (by kernel_rfl) rfl rfl ⟨((blk_cell HD.out.blk 0).trans rfl), ((blk_cell HD.out.blk 1).trans rfl)⟩ (fun hHeld => ?_)
      refine pure_ (i := 0) (N := some 8) (v := ?_) (a' := ?_) (bm 1 15) rfl rfl (by kernel_rfl) (fun _ _ _ h => h) (Or.inl ⟨by rfl, ?_⟩) ?_ ?_
      rotate_left
      · intro w'
        go_simp
        with_reducible rfl
      rotate_left
      · simp only [Act.put, List.setIfInBounds_toArray, List.set_cons_zero, List.set_cons_succ, i64_w, i32_w]
        rfl
      refine pure_ (i := 1) (N := some 9) (v := ?_) (a' := ?_) (bm 3 15) rfl rfl (by kernel_rfl) (fun _ _ _ h => h) (Or.inl ⟨by rfl, ?_⟩) ?_ ?_
      rotate_left
      · intro w'
        go_simp
        with_reducible rfl
      rotate_left
      · simp only [Act.put, List.setIfInBounds_toArray, List.set_cons_zero, List.set_cons_succ, i64_w, i32_w]
        rfl
      refine pure_ (i := 2) (N := some 10) (v := ?_) (a' := ?_) (bm 7 15) rfl rfl (by kernel_rfl) (fun _ _ _ h => h) (Or.inl ⟨by rfl, ?_⟩) ?_ ?_
      rotate_left
      · intro w'
        go_simp
        with_reducible rfl
      rotate_left
      · simp only [Act.put, List.setIfInBounds_toArray, List.set_cons_zero, List.set_cons_succ, i64_w, i32_w]
        rfl
      refine pure_ (i := 3) (N := some 11) (v := ?_) (a' := ?_) (bm 15 15) rfl rfl (by kernel_rfl) (fun _ _ _ h => h) (Or.inl ⟨by rfl, ?_⟩) ?_ ?_
      rotate_left
      · intro w'
        go_simp
        with_reducible rfl
      rotate_left
      · simp only [Act.put, List.setIfInBounds_toArray, List.set_cons_zero, List.set_cons_succ, i64_w, i32_w]
        rfl
      refine pure_ (i := 5) (N := some 13) (v := ?_) (a' := ?_) (bm 47 15) rfl rfl (by kernel_rfl) (fun _ _ _ h => h) (Or.inl ⟨by rfl, ?_⟩) ?_ ?_
      rotate_left
      · intro w'
        go_simp
        with_reducible rfl
      rotate_left
      · simp only [Act.put, List.setIfInBounds_toArray, List.set_cons_zero, List.set_cons_succ, i64_w, i32_w]
        rfl
      refine pure_ (i := 6) (N := some 14) (v := ?_) (a' := ?_) (bm 111 15) rfl rfl (by kernel_rfl) (fun _ _ _ h => h) (Or.inl ⟨by rfl, ?_⟩) ?_ ?_
      rotate_left
      · intro w'
        go_simp
        with_reducible rfl
      rotate_left
      · simp only [Act.put, List.setIfInBounds_toArray, List.set_cons_zero, List.set_cons_succ, i64_w, i32_w]
        rfl
      refine pure_ (i := 7) (N := some 15) (v := ?_) (a' := ?_) (bm 239 15) rfl rfl (by kernel_rfl) (fun _ _ _ h => h) (Or.inl ⟨by rfl, ?_⟩) ?_ ?_
      rotate_left
      · intro w'
        go_simp
        with_reducible rfl
      rotate_left
      · simp only [Act.put, List.setIfInBounds_toArray, List.set_cons_zero, List.set_cons_succ, i64_w, i32_w]
        rfl
      refine take_ (i := 4) (N := some 12) (v := ?_) (a' := ?_) (bm 255 15) rfl rfl (by kernel_rfl) (fun _ _ _ h => h) (Or.inl ⟨by rfl, ?_⟩) hHeld ?_ ?_
      rotate_left
      · rintro w' ⟨s0, s1⟩
        go_simp
        with_reducible rfl
      rotate_left
      · simp only [Act.put, List.setIfInBounds_toArray, List.set_cons_zero, List.set_cons_succ, i64_w, i32_w]
        rfl
      refine take_ (i := 8) (N := some 16) (v := ?_) (a' := ?_) (bm 511 15) rfl rfl (by kernel_rfl) (fun _ _ _ h => h) (Or.inl ⟨by rfl, ?_⟩) hHeld ?_ ?_
      rotate_left
      · rintro w' ⟨s0, s1⟩
        go_simp
        with_reducible rfl
      rotate_left
      · simp only [Act.put, List.setIfInBounds_toArray, List.set_cons_zero, List.set_cons_succ, i64_w, i32_w]
        rfl
      refine pure_ (i := 9) (N := some 17) (v := ?_) (a' := ?_) (bm 1023 15) rfl rfl (by kernel_rfl) (fun _ _ _ h => h) (Or.inl ⟨by rfl, ?_⟩) ?_ ?_
      rotate_left
      · intro w'
        go_simp
        with_reducible rfl
      rotate_left
      · simp only [Act.put, List.setIfInBounds_toArray, List.set_cons_zero, List.set_cons_succ, i64_w, i32_w]
        rfl
      refine one_ (i := 10) (N := some 18) (bm 2047 15) rfl rfl (by kernel_rfl) (by decide) (fun K hK => ?_)
      refine value_ (w1 := ?_) (v := ?_) (by rfl) rfl ?_ ?_
      rotate_left 2
      · go_simp
        constructor
        · rfl
        · rfl
      refine hK.out _ _ ⟨((blk_cell (blk_alloc HD.out.blk _) 0).trans rfl), ((blk_cell (blk_alloc HD.out.blk _) 1).trans rfl)⟩ (fun hHeld => ?_)
      clear hK K
      refine norm_ (a' := ?_) ?_ ?_
      rotate_left
      · show Act.put _ (some 18) _ = _
        simp only [Act.put, List.setIfInBounds_toArray, List.set_cons_zero, List.set_cons_succ, i64_w, i32_w]
        rfl
      refine one_ (i := 11) (N := some 19) (bm 4095 15) rfl rfl (by kernel_rfl) (by decide) (fun K hK => ?_)
      refine Kd.N_append_step k70 (w0 := w0) w0.heap.size (by rfl) (.tmp 12) (.tmp 18) 64 70 (.agg #[.int .i64 0, .int .i64 0, .slice none 0 0, .slice none 0 0]) 64 rfl Try.underlying64 info70 rfl (by decide) (by decide) _ out ⟨1, 0, [], add⟩ [.int .i64 1, .int .i64 0, .slice none 0 0, .slice BI add.length dI] (fun k => ok k ∧ k ≠ g) (fun k => (ok k ∧ k ≠ g) ∧ some k ≠ (Value.slice AI out.length cI).ownBlock) (by rfl) (by rfl) (k70_mkF _ _ ⟨1, 0, [], add⟩ (Nat.le_refl 0) (Kd.F_nil _ _ _) (Kd.N_reads' HD.out.radd).2.1 (Kd.N_F HD.out.radd)) (fun _ hk => hk) (fun k hk => ⟨HO.out k (Nat.le_trans HDO.out.mv.size hk), fun e => by have := blk_lt HDO.out.blk; omega⟩) HDO.out.row HDO.out.bel HDO.out.bel.size (by have := HL.out; omega) ?_
      intro v1 w1 hR1 hB1 hg hat
      obtain ⟨A1, n1, rfl⟩ := Kd.N_slice hR1
      obtain ⟨hb1, hW⟩ := HDO.out.app hR1 hB1 hg hat
      have HW := Aside0.mk hW
      have hd0 : w1.cell? ⟨g, 0, none⟩ = _ := (blk_cell hb1 0).trans rfl
      have hd1 : w1.cell? ⟨g, 1, none⟩ = some (.slice BI add.length dI) := (blk_cell hb1 1).trans rfl
      have hd2 : w1.cell? ⟨g, 2, none⟩ = some (.int .i64 cut) := (blk_cell hb1 2).trans rfl
      have hdf := blk_frozen hb1 0
      clear hR1 hB1 hg hat hb1 hW
      refine hK.out _ _ ⟨hd0, hd1⟩ (fun hHeld => ?_)
      clear hK K
      refine norm_ (a' := ?_) ?_ ?_
      rotate_left
      · show Act.put _ (some 19) _ = _
        simp only [Act.put, List.setIfInBounds_toArray, List.set_cons_zero, List.set_cons_succ, i64_w, i32_w]
        rfl
      refine pure_ (i := 12) (N := some 20) (v := ?_) (a' := ?_) (bm 8191 15) rfl rfl (by kernel_rfl) (fun _ _ _ h => h) (Or.inl ⟨by rfl, ?_⟩) ?_ ?_
      rotate_left
      · intro w'
        go_simp
        with_reducible rfl
      rotate_left
      · simp only [Act.put, List.setIfInBounds_toArray, List.set_cons_zero, List.set_cons_succ, i64_w, i32_w]
        rfl
      refine pure_ (i := 13) (N := some 21) (v := ?_) (a' := ?_) (bm 16383 15) rfl rfl (by kernel_rfl) (fun _ _ _ h => h) (Or.inl ⟨by rfl, ?_⟩) ?_ ?_
      rotate_left
      · intro w'
        go_simp
        with_reducible rfl
      rotate_left
      · simp only [Act.put, List.setIfInBounds_toArray, List.set_cons_zero, List.set_cons_succ, i64_w, i32_w]
        rfl
      refine last_ (i := 14) (N := none) (bm 32767 15) rfl rfl (by kernel_rfl) (by decide) (fun K hK => ?_)
      refine skip_ (w1 := ?_) (by rfl) rfl ?_ ?_
      rotate_left
      · go_simp
        rfl
      refine hK.out _ _ ?_
      clear hK K
      refine done_ (by kernel_rfl) ?_
      go_wp2
      go_meet
      case rel => exact ⟨A1, n1, ⟨by rw [HE.out]; simpa using HW.out⟩⟩
  case rest =>
    clear hta hta2 hc0 hc1 hc2
    obtain ⟨A2, n2, HS2⟩ := hcut
    obtain ⟨l2, hl2⟩ : ∃ l : List S70, l = addD out add := ⟨_, rfl⟩
    have hlen : l2.length ≤ out.length + 1 := by rw [hl2]; unfold addD; split <;> simp
    have HLEN := Aside0.mk hlen
    rw [← hl2] at HS2
    have HL2 := Aside0.mk hl2
    clear hl2 hlen
    obtain ⟨tb, htb⟩ : ∃ t : Bool, decide (0 < cut) = t := ⟨_, rfl⟩
    have hc0 : wc.cell? ⟨g, 0, none⟩ = some (.slice A2 l2.length n2) := (blk_cell HS2.out.blk 0).trans rfl
    have hc1 : wc.cell? ⟨g, 1, none⟩ = some (.slice BI add.length dI) := (blk_cell HS2.out.blk 1).trans rfl
    have hc2 : wc.cell? ⟨g, 2, none⟩ = some (.int .i64 cut) := (blk_cell HS2.out.blk 2).trans rfl
    go_upto_if 26 with (fail)
    go_cut [] (fun we => ∃ (A1 : Option Addr) (n1 : Nat), Aside0 (WrO ok w0 w g (.slice AI out.length cI) (.slice BI add.length dI) (cutD l2 cut) cut (.slice A1 (cutD l2 cut).length n1) (.slice BI add.length dI) we))
    case first =>
      cases tb with
      | false =>
        have hadd := of_decide_eq_false htb
        have e : cutD l2 cut = l2 := if_neg hadd
        go_wp2
        go_meet
        case rel => exact ⟨A2, n2, ⟨by rw [e]; exact HS2.out⟩⟩
      | true =>
        have hadd := of_decide_eq_true htb
        have e : cutD l2 cut = l2 ++ [⟨2, cut, [], []⟩] := if_pos hadd
        have HE := Aside0.mk e
        clear hadd e
        have HDO := Aside0.mk HS2.out.drew
        go_upto_region 3 with (fail)
        refine start_ (n := 15) (S := fun w' => w'.cell? ⟨g, 0, none⟩ = some (.slice A2 l2.length n2) ∧ w'.cell? ⟨g, 2, none⟩ = some (.int .i64 cut)) (ds := [14]) #[false, false, false, false, false, false, false, false, false, false, false, false, false, false, false] (by kernel_rfl) rfl rfl ⟨((blk_cell HDO.out.blk 0).trans rfl), ((blk_cell HDO.out.blk 2).trans rfl)⟩ (fun hHeld => ?_)
        refine pure_ (i := 0) (N := some 27) (v := ?_) (a' := ?_) (bm 1 15) rfl rfl (by kernel_rfl) (fun _ _ _ h => h) (Or.inl ⟨by rfl, ?_⟩) ?_ ?_
        rotate_left
        · intro w'
          go_simp
          with_reducible rfl
        rotate_left
        · simp only [Act.put, List.setIfInBounds_toArray, List.set_cons_zero, List.set_cons_succ, i64_w, i32_w]
          rfl
        refine pure_ (i := 1) (N := some 28) (v := ?_) (a' := ?_) (bm 3 15) rfl rfl (by kernel_rfl) (fun _ _ _ h => h) (Or.inl ⟨by rfl, ?_⟩) ?_ ?_
        rotate_left
        · intro w'
          go_simp
          with_reducible rfl
        rotate_left
        · simp only [Act.put, List.setIfInBounds_toArray, List.set_cons_zero, List.set_cons_succ, i64_w, i32_w]
          rfl
        refine pure_ (i := 2) (N := some 29) (v := ?_) (a' := ?_) (bm 7 15) rfl rfl (by kernel_rfl) (fun _ _ _ h => h) (Or.inl ⟨by rfl, ?_⟩) ?_ ?_
        rotate_left
        · intro w'
          go_simp
          with_reducible rfl
        rotate_left
        · simp only [Act.put, List.setIfInBounds_toArray, List.set_cons_zero, List.set_cons_succ, i64_w, i32_w]
          rfl
        refine pure_ (i := 3) (N := some 30) (v := ?_) (a' := ?_) (bm 15 15) rfl rfl (by kernel_rfl) (fun _ _ _ h => h) (Or.inl ⟨by rfl, ?_⟩) ?_ ?_
        rotate_left
        · intro w'
          go_simp
          with_reducible rfl
        rotate_left
        · simp only [Act.put, List.setIfInBounds_toArray, List.set_cons_zero, List.set_cons_succ, i64_w, i32_w]
          rfl
        refine pure_ (i := 5) (N := some 32) (v := ?_) (a' := ?_) (bm 47 15) rfl rfl (by kernel_rfl) (fun _ _ _ h => h) (Or.inl ⟨by rfl, ?_⟩) ?_ ?_
        rotate_left
        · intro w'
          go_simp
          with_reducible rfl
        rotate_left
        · simp only [Act.put, List.setIfInBounds_toArray, List.set_cons_zero, List.set_cons_succ, i64_w, i32_w]
          rfl
        refine pure_ (i := 6) (N := some 33) (v := ?_) (a' := ?_) (bm 111 15) rfl rfl (by kernel_rfl) (fun _ _ _ h => h) (Or.inl ⟨by rfl, ?_⟩) ?_ ?_
        rotate_left
        · intro w'
          go_simp
          with_reducible rfl
        rotate_left
        · simp only [Act.put, List.setIfInBounds_toArray, List.set_cons_zero, List.set_cons_succ, i64_w, i32_w]
          rfl
        refine pure_ (i := 7) (N := some 34) (v := ?_) (a' := ?_) (bm 239 15) rfl rfl (by kernel_rfl) (fun _ _ _ h => h) (Or.inl ⟨by rfl, ?_⟩) ?_ ?_
        rotate_left
        · intro w'
          go_simp
          with_reducible rfl
        rotate_left
        · simp only [Act.put, List.setIfInBounds_toArray, List.set_cons_zero, List.set_cons_succ, i64_w, i32_w]
          rfl
        refine take_ (i := 4) (N := some 31) (v := ?_) (a' := ?_) (bm 255 15) rfl rfl (by kernel_rfl) (fun _ _ _ h => h) (Or.inl ⟨by rfl, ?_⟩) hHeld ?_ ?_
        rotate_left
        · rintro w' ⟨s0, s1⟩
          go_simp
          with_reducible rfl
        rotate_left
        · simp only [Act.put, List.setIfInBounds_toArray, List.set_cons_zero, List.set_cons_succ, i64_w, i32_w]
          rfl
        refine take_ (i := 8) (N := some 35) (v := ?_) (a' := ?_) (bm 511 15) rfl rfl (by kernel_rfl) (fun _ _ _ h => h) (Or.inl ⟨by rfl, ?_⟩) hHeld ?_ ?_
        rotate_left
        · rintro w' ⟨s0, s1⟩
          go_simp
          with_reducible rfl
        rotate_left
        · simp only [Act.put, List.setIfInBounds_toArray, List.set_cons_zero, List.set_cons_succ, i64_w, i32_w]
          rfl
        refine pure_ (i := 9) (N := some 36) (v := ?_) (a' := ?_) (bm 1023 15) rfl rfl (by kernel_rfl) (fun _ _ _ h => h) (Or.inl ⟨by rfl, ?_⟩) ?_ ?_
        rotate_left
        · intro w'
          go_simp
          with_reducible rfl
        rotate_left
        · simp only [Act.put, List.setIfInBounds_toArray, List.set_cons_zero, List.set_cons_succ, i64_w, i32_w]
          rfl
        refine one_ (i := 10) (N := some 37) (bm 2047 15) rfl rfl (by kernel_rfl) (by decide) (fun K hK => ?_)
        refine value_ (w1 := ?_) (v := ?_) (by rfl) rfl ?_ ?_
        rotate_left 2
        · go_simp
          constructor
          · rfl
          · rfl
        refine hK.out _ _ ⟨((blk_cell (blk_alloc HDO.out.blk _) 0).trans rfl), ((blk_cell (blk_alloc HDO.out.blk _) 2).trans rfl)⟩ (fun hHeld => ?_)
        clear hK K
        refine norm_ (a' := ?_) ?_ ?_
        rotate_left
        · show Act.put _ (some 37) _ = _
          simp only [Act.put, List.setIfInBounds_toArray, List.set_cons_zero, List.set_cons_succ, i64_w, i32_w]
          rfl
        refine one_ (i := 11) (N := some 38) (bm 4095 15) rfl rfl (by kernel_rfl) (by decide) (fun K hK => ?_)
        refine Kd.N_append_step k70 (w0 := w0) w0.heap.size (by rfl) (.tmp 31) (.tmp 37) 64 70 (.agg #[.int .i64 0, .int .i64 0, .slice none 0 0, .slice none 0 0]) 64 rfl Try.underlying64 info70 rfl (by decide) (by decide) _ l2 ⟨2, cut, [], []⟩ [.int .i64 2, .int .i64 cut, .slice none 0 0, .slice none 0 0] (fun k => ok k ∧ k ≠ g) (fun _ => False) (by rfl) (by rfl) (k70_mkF _ _ ⟨2, cut, [], []⟩ (Nat.le_refl 0) (Kd.F_nil _ _ _) (Nat.le_refl 0) (Kd.F_nil _ _ _)) (fun _ h => h.elim) (fun k hk => ⟨HO.out k (Nat.le_trans HDO.out.mv.size hk), fun e => by have := blk_lt HDO.out.blk; omega⟩) HDO.out.row HDO.out.bel HDO.out.bel.size (by have := HL.out; have := HLEN.out; omega) ?_
        intro v1 w1 hR1 hB1 hg hat
        obtain ⟨A1, n1, rfl⟩ := Kd.N_slice hR1
        obtain ⟨hb1, hW⟩ := HDO.out.app hR1 hB1 hg hat
        have HW := Aside0.mk hW
        have hd0 : w1.cell? ⟨g, 0, none⟩ = _ := (blk_cell hb1 0).trans rfl
        have hd1 : w1.cell? ⟨g, 1, none⟩ = some (.slice BI add.length dI) := (blk_cell hb1 1).trans rfl
        have hd2 : w1.cell? ⟨g, 2, none⟩ = some (.int .i64 cut) := (blk_cell hb1 2).trans rfl
        have hdf := blk_frozen hb1 0
        clear hR1 hB1 hg hat hb1 hW
        refine hK.out _ _ ⟨hd0, hd2⟩ (fun hHeld => ?_)
        clear hK K
        refine norm_ (a' := ?_) ?_ ?_
        rotate_left
        · show Act.put _ (some 38) _ = _
          simp only [Act.put, List.setIfInBounds_toArray, List.set_cons_zero, List.set_cons_succ, i64_w, i32_w]
          rfl
        refine pure_ (i := 12) (N := some 39) (v := ?_) (a' := ?_) (bm 8191 15) rfl rfl (by kernel_rfl) (fun _ _ _ h => h) (Or.inl ⟨by rfl, ?_⟩) ?_ ?_
        rotate_left
        · intro w'
          go_simp
          with_reducible rfl
        rotate_left
        · simp only [Act.put, List.setIfInBounds_toArray, List.set_cons_zero, List.set_cons_succ, i64_w, i32_w]
          rfl
        refine pure_ (i := 13) (N := some 40) (v := ?_) (a' := ?_) (bm 16383 15) rfl rfl (by kernel_rfl) (fun _ _ _ h => h) (Or.inl ⟨by rfl, ?_⟩) ?_ ?_
        rotate_left
        · intro w'
          go_simp
          with_reducible rfl
        rotate_left
        · simp only [Act.put, List.setIfInBounds_toArray, List.set_cons_zero, List.set_cons_succ, i64_w, i32_w]
          rfl
        refine last_ (i := 14) (N := none) (bm 32767 15) rfl rfl (by kernel_rfl) (by decide) (fun K hK => ?_)
        refine skip_ (w1 := ?_) (by rfl) rfl ?_ ?_
        rotate_left
        · go_simp
          rfl
        refine hK.out _ _ ?_
        clear hK K
        refine done_ (by kernel_rfl) ?_
        go_wp2
        go_meet
        case rel => exact ⟨A1, n1, ⟨by rw [HE.out]; simpa using HW.out⟩⟩
    case rest =>
      clear htb hc0 hc1 hc2
      obtain ⟨A3, n3, HS3⟩ := hcut
      have HS4 := Aside0.mk HS3.out.clear
      have hc1 := (blk_cell HS3.out.blk 1).trans rfl
      have hc2 := (blk_cell HS3.out.blk 2).trans rfl
      have hf1 := blk_frozen HS3.out.blk 1
      have hf2 := blk_frozen HS3.out.blk 2
      go_wp2
      go_end0
      exact ⟨rfl, _, by unfold flushD; rw [← HL2.out]; exact HS4.out⟩
section
variable {ok : Nat → Prop} {w0 wI w w1 : World} {g : Nat} {vI uI v u v1 u1 : Value} {out out' : List S70} {add add' : List S84} {cut : Int}
theorem mv_below (h : Moves2 wI w g vI uI v u) (hb : Below w.heap.size w w1) : Moves2 wI w1 g vI uI v u :=
  ⟨Nat.le_trans h.size hb.size, fun k hk hgk hv hu => by rw [hb.block k (Nat.lt_of_lt_of_le hk h.size), h.frame k hk hgk hv hu], h.ownv, h.ownu⟩
theorem WrD.below (h : WrD ok w0 wI g vI uI out add cut v u w) (hb : Below w.heap.size w w1) : WrD ok w0 wI g vI uI out add cut v u w1 :=
  ⟨h.ge, (hb.block _ (blk_lt h.blk)).trans h.blk, Kd.N_below h.row hb, Kd.N_below h.radd hb, below_step h.bel hb, mv_below h.mv hb⟩
theorem WrD.here (h : WrD ok w0 wI g vI uI out add cut v u w) : WrD ok w0 w g v u out add cut v u w := ⟨h.ge, h.blk, h.row, h.radd, h.bel, Moves2.refl _ _ _ _⟩
theorem mv_appu (h : Moves2 wI w g vI uI v u) (hg : w.grownBy w1 u.ownBlock) (hat : u1.ownBlock = u.ownBlock ∨ ∃ b, u1.ownBlock = some b ∧ w.heap.size ≤ b) : Moves2 wI w1 g vI uI v u1 := by
  refine ⟨Nat.le_trans h.size hg.size, fun k hk hgk hv hu => ?_, h.ownv, ?_⟩
  · rw [hg.block k (Nat.lt_of_lt_of_le hk h.size) ?_, h.frame k hk hgk hv hu]
    rcases h.ownu with e | e | ⟨b, e, hb⟩
    · rw [e]; exact hu
    · rw [e]; simp
    · rw [e]; intro h'; injection h' with h'; omega
  · rcases hat with e | ⟨b, e, hb⟩
    · rw [e]; exact h.ownu
    · exact .inr (.inr ⟨b, e, Nat.le_trans h.size hb⟩)
theorem WrD.appu (h : WrD ok w0 wI g vI uI out add cut v u w) (hR : Kd.N k84 84 w1 w0.heap.size (fun k => (ok k ∧ k ≠ g) ∧ some k ≠ v.ownBlock) u1 add') (hB : Below w0.heap.size w0 w1) (hg : w.grownBy w1 u.ownBlock)
    (hat : u1.ownBlock = u.ownBlock ∨ ∃ b, u1.ownBlock = some b ∧ w.heap.size ≤ b) :
    w1.heap[g]? = some (.cells #[v, u, .int .i64 cut] 127 (0, 0)) ∧ WrD ok w0 wI g vI uI out add' cut v u1 (w1.setCell ⟨g, 1, none⟩ u1) := by
  have hb := blk_grown h.blk hg (Kd.N_away h.radd (fun _ hk => hk.1.2))
  exact ⟨hb, h.ge, blk_put hb 1 u1 rfl, Kd.N_far (Kd.N_afterv h.row hg hat) (fun _ hk => hk.1.2) u1, Kd.N_far hR (fun _ hk => hk.1.2) u1, below_set hB h.ge, mv_set (mv_appu h.mv hg hat) 1 u1⟩
theorem WrD.fresh (h : WrD ok w0 wI g vI uI out add cut v u w) (hok : ∀ k, wI.heap.size ≤ k → ok k) (k : Nat) (hk : w.heap.size ≤ k) : ((ok k ∧ k ≠ g) ∧ some k ≠ v.ownBlock) ∧ some k ≠ u.ownBlock := by
  have hg := blk_lt h.blk
  refine ⟨⟨⟨hok k (Nat.le_trans h.mv.size hk), fun e => by omega⟩, fun e => ?_⟩, fun e => ?_⟩
  · have := Kd.N_lt h.row k e.symm; omega
  · have := Kd.N_lt h.radd k e.symm; omega
end
set_option maxRecDepth 100000 in
set_option maxHeartbeats 8000000 in
theorem elems_calls (ok : Nat → Prop) (w0 : World) (g : Nat) (out : List S70) (add : List S84) (cut : Int) (vI uI : Value) (w : World) (k : Nat) (A : Option Addr) (c : Nat) (l r : List S84) (h : WrD ok w0 w g vI uI out add cut vI uI w) (hok : ∀ k, w.heap.size ≤ k → ok k)
    (hr : Kd.C k84 w A l.length l) (hc : l.length ≤ c) (hf : flow_Copy.f k l = some r) (hl : (add.length + r.length) * 40 ≤ 140737488355328) :
    Calls Try.prog 87 #[.pointer (some ⟨g, 0, none⟩), .slice A l.length c] w fun e w' => e = .returned (.tuple #[]) ∧ ∃ u, WrD ok w0 w g vI uI out (add ++ r) cut vI u w' := by
  have hu84 := Try.underlying84
  have hu127 := Try.underlying127
  obtain ⟨BI, dI, huI⟩ := Kd.N_slice h.radd
  subst huI
  have HS := Aside0.mk h
  have HD := Aside0.mk h.drew
  have HO := Aside0.mk hok
  have HL := Aside0.mk hl
  have HR := Aside0.mk (Kd.C_below hr (below_drew1 (Below.refl _ _)))
  have HC := Aside0.mk hc
  have HF := Aside0.mk hf
  clear h hok hl hr hc hf
  have hc1 : w.cell? ⟨g, 1, none⟩ = some (.slice BI add.length dI) := (blk_cell HS.out.blk 1).trans rfl
  go_enter Try.func87, Try.ntmps87
  go_upto_region 0 with (fail)
  refine start_ (n := 11) (S := fun w' => w'.cell? ⟨g, 1, none⟩ = some (.slice BI add.length dI)) (ds := [10]) #[false, false, false, false, false, false, false, false, false, false, false] (by kernel_rfl) rfl rfl (((blk_cell HD.out.blk 1).trans rfl)) (fun hHeld => ?_)
  refine pure_ (i := 0) (N := some 4) (v := ?_) (a' := ?_) (bm 1 11) rfl rfl (by kernel_rfl) (fun _ _ _ h => h) (Or.inl ⟨by rfl, ?_⟩) ?_ ?_
  rotate_left
  · intro w'
    go_simp
    with_reducible rfl
  rotate_left
  · simp only [Act.put, List.setIfInBounds_toArray, List.set_cons_zero, List.set_cons_succ, i64_w, i32_w]
    rfl
  refine pure_ (i := 1) (N := some 5) (v := ?_) (a' := ?_) (bm 3 11) rfl rfl (by kernel_rfl) (fun _ _ _ h => h) (Or.inl ⟨by rfl, ?_⟩) ?_ ?_
  rotate_left
  · intro w'
    go_simp
    with_reducible rfl
  rotate_left
  · simp only [Act.put, List.setIfInBounds_toArray, List.set_cons_zero, List.set_cons_succ, i64_w, i32_w]
    rfl
  refine pure_ (i := 2) (N := some 6) (v := ?_) (a' := ?_) (bm 7 11) rfl rfl (by kernel_rfl) (fun _ _ _ h => h) (Or.inl ⟨by rfl, ?_⟩) ?_ ?_
  rotate_left
  · intro w'
    go_simp
    with_reducible rfl
  rotate_left
  · simp only [Act.put, List.setIfInBounds_toArray, List.set_cons_zero, List.set_cons_succ, i64_w, i32_w]
    rfl
  refine pure_ (i := 3) (N := some 7) (v := ?_) (a' := ?_) (bm 15 11) rfl rfl (by kernel_rfl) (fun _ _ _ h => h) (Or.inl ⟨by rfl, ?_⟩) ?_ ?_
  rotate_left
  · intro w'
    go_simp
    with_reducible rfl
  rotate_left
  · simp only [Act.put, List.setIfInBounds_toArray, List.set_cons_zero, List.set_cons_succ, i64_w, i32_w]
    rfl
  refine pure_ (i := 5) (N := some 9) (v := ?_) (a' := ?_) (bm 47 11) rfl rfl (by kernel_rfl) (fun _ _ _ h => h) (Or.inl ⟨by rfl, ?_⟩) ?_ ?_
  rotate_left
  · intro w'
    go_simp
    with_reducible rfl
  rotate_left
  · simp only [Act.put, List.setIfInBounds_toArray, List.set_cons_zero, List.set_cons_succ, i64_w, i32_w]
    rfl
  refine take_ (i := 4) (N := some 8) (v := ?_) (a' := ?_) (bm 63 11) rfl rfl (by kernel_rfl) (fun _ _ _ h => h) (Or.inl ⟨by rfl, ?_⟩) hHeld ?_ ?_
  rotate_left
  · intro w' s0
    go_simp
    with_reducible rfl
  rotate_left
  · simp only [Act.put, List.setIfInBounds_toArray, List.set_cons_zero, List.set_cons_succ, i64_w, i32_w]
    rfl
  refine one_ (i := 6) (N := some 10) (bm 127 11) rfl rfl (by kernel_rfl) (by decide) (fun K hK => ?_)
  refine goes_ Try.func112 (by kernel_rfl) rfl #[.slice A l.length c] (by rfl) rfl rfl (by simp only [List.map_toArray, List.map_cons, List.map_nil]; rfl) ?_
  with_reducible refine (flow_Copy.calls k A c l r _ HR.out HC.out HF.out).mono ?_
  rintro e w3 ⟨v3, rfl, hN3, hb3⟩
  refine ⟨_, rfl, ?_⟩
  obtain ⟨A3, n3, rfl⟩ := Kd.N_slice hN3
  have HD3 := Aside0.mk (HD.out.below hb3)
  have HN3 := Aside0.mk hN3
  clear hN3 hb3
  refine hK.out _ _ (((blk_cell HD3.out.blk 1).trans rfl)) (fun hHeld => ?_)
  clear hK K
  refine norm_ (a' := ?_) ?_ ?_
  rotate_left
  · show Act.put _ (some 10) _ = _
    simp only [Act.put, List.setIfInBounds_toArray, List.set_cons_zero, List.set_cons_succ, i64_w, i32_w]
    rfl
  refine one_ (i := 7) (N := some 11) (bm 255 11) rfl rfl (by kernel_rfl) (by decide) (fun K hK => ?_)
  refine Kd.N_append_rows_step k84 (w0 := w0) w0.heap.size (by rfl) (.tmp 8) (.tmp 10) 63 84 (.agg #[.int .i64 0, .int .i64 0, .slice none 0 0]) 40 rfl Try.underlying63 info84 rfl (by decide) (by decide) _ add r _ _ _ (fun k => (ok k ∧ k ≠ g) ∧ some k ≠ vI.ownBlock) (fun k => w.drew.heap.size ≤ k) (by rfl) (by rfl) HD3.out.radd (Kd.N_F HN3.out) (fun k hk => HD.out.fresh HO.out k hk) (fun k hk => (HD3.out.fresh HO.out k hk).1) HD3.out.bel HD3.out.bel.size (by have := HL.out; omega) ?_
  intro u1 w1 hR1 hB1 hg hat
  obtain ⟨A1, n1, rfl⟩ := Kd.N_slice hR1
  obtain ⟨hb1, hW⟩ := HD3.out.appu hR1 hB1 hg hat
  have HW := Aside0.mk hW
  have hd1 : w1.cell? ⟨g, 1, none⟩ = some (.slice BI add.length dI) := (blk_cell hb1 1).trans rfl
  have hdf := blk_frozen hb1 1
  clear hR1 hB1 hg hat hb1 hW
  refine hK.out _ _ (hd1) (fun hHeld => ?_)
  clear hK K
  refine norm_ (a' := ?_) ?_ ?_
  rotate_left
  · show Act.put _ (some 11) _ = _
    simp only [Act.put, List.setIfInBounds_toArray, List.set_cons_zero, List.set_cons_succ, i64_w, i32_w]
    rfl
  refine pure_ (i := 8) (N := some 12) (v := ?_) (a' := ?_) (bm 511 11) rfl rfl (by kernel_rfl) (fun _ _ _ h => h) (Or.inl ⟨by rfl, ?_⟩) ?_ ?_
  rotate_left
  · intro w'
    go_simp
    with_reducible rfl
  rotate_left
  · simp only [Act.put, List.setIfInBounds_toArray, List.set_cons_zero, List.set_cons_succ, i64_w, i32_w]
    rfl
  refine pure_ (i := 9) (N := some 13) (v := ?_) (a' := ?_) (bm 1023 11) rfl rfl (by kernel_rfl) (fun _ _ _ h => h) (Or.inl ⟨by rfl, ?_⟩) ?_ ?_
  rotate_left
  · intro w'
    go_simp
    with_reducible rfl
  rotate_left
  · simp only [Act.put, List.setIfInBounds_toArray, List.set_cons_zero, List.set_cons_succ, i64_w, i32_w]
    rfl
  refine last_ (i := 10) (N := none) (bm 2047 11) rfl rfl (by kernel_rfl) (by decide) (fun K hK => ?_)
  refine skip_ (w1 := ?_) (by rfl) rfl ?_ ?_
  rotate_left
  · go_simp
    rfl
  refine hK.out _ _ ?_
  clear hK K
  refine done_ (by kernel_rfl) ?_
  go_wp2
  go_end0
  exact ⟨rfl, _, by have := HW.out; rw [List.length_append] at this; exact this⟩
theorem flushD_len (out : List S70) (add : List S84) (c : Int) : out.length ≤ (flushD out add c).length ∧ (flushD out add c).length ≤ out.length + 2 := by
  unfold flushD addD cutD
  repeat (first | split | simp)
def keepB (k : Nat) (o : List S70) (attrs : List S38) : Option Bool :=
  if 0 < o.length then (if (rd_T70 o ((o.length : Int) - 1)).f0 = 0 then attr_Same.f k (rd_T70 o ((o.length : Int) - 1)).f2 attrs else some false) else some false
def keepO (o : List S70) (n : Int) (attrs : List S38) : Bool → List S70
  | true => o.set (o.length - 1) ⟨(rd_T70 o ((o.length : Int) - 1)).f0, wrap64 ((rd_T70 o ((o.length : Int) - 1)).f1 + n), (rd_T70 o ((o.length : Int) - 1)).f2, (rd_T70 o ((o.length : Int) - 1)).f3⟩
  | false => o ++ [⟨0, n, attrs, []⟩]
theorem wrd_seg {ok : Nat → Prop} {w0 wI w : World} {g go n cap j : Nat} {vI uI u : Value} {o o' : List S70} {a : List S84} {c : Int} {x : Value} (h : WrD ok w0 wI g vI uI o a c (.slice (some ⟨go, 0, none⟩) n cap) u w) (hne : go ≠ g) (hgo : w0.heap.size ≤ go)
    (hR : Kd.N k70 70 (w.setCell ⟨go, j, none⟩ x) w0.heap.size (fun k => (ok k ∧ k ≠ g) ∧ some k ≠ u.ownBlock) (.slice (some ⟨go, 0, none⟩) n cap) o') : WrD ok w0 wI g vI uI o' a c (.slice (some ⟨go, 0, none⟩) n cap) u (w.setCell ⟨go, j, none⟩ x) := by
  refine ⟨h.ge, blk_far h.blk (fun e => hne e.symm) _, hR, Kd.N_far h.radd (fun k hk e => hk.2 (by rw [show k = go from e]; rfl)) _, below_set h.bel hgo, ⟨by have := h.mv.size; simp [World.setCell]; omega, fun k hk hgk hv hu => ?_, h.mv.ownv, h.mv.ownu⟩⟩
  have hk' : k ≠ go := by
    rcases h.mv.ownv with e | ⟨b, e, hb⟩
    · intro e2
      apply hv
      rw [← e, e2]
      rfl
    · have : go = b := by simpa [Value.ownBlock] using e
      omega
  rw [Below.heap_setCell _ _ _ _ hk', h.mv.frame k hk hgk hv hu]
theorem WrD.appv {ok : Nat → Prop} {w0 wI w w1 : World} {g : Nat} {vI uI v v1 : Value} {out out' : List S70} {cut : Int} (h : WrD ok w0 wI g vI uI out [] cut v (.slice none 0 0) w) (hR : Kd.N k70 70 w1 w0.heap.size (fun k => (ok k ∧ k ≠ g) ∧ some k ≠ (Value.slice none 0 0).ownBlock) v1 out') (hB : Below w0.heap.size w0 w1) (hg : w.grownBy w1 v.ownBlock)
    (hat : v1.ownBlock = v.ownBlock ∨ ∃ b, v1.ownBlock = some b ∧ w.heap.size ≤ b) :
    w1.heap[g]? = some (.cells #[v, .slice none 0 0, .int .i64 cut] 127 (0, 0)) ∧ WrD ok w0 wI g vI uI out' [] cut v1 (.slice none 0 0) (w1.setCell ⟨g, 0, none⟩ v1) := by
  have hb := blk_grown h.blk hg (Kd.N_away h.row (fun _ hk => hk.1.2))
  exact ⟨hb, h.ge, blk_put hb 0 v1 rfl, Kd.N_far hR (fun _ hk => hk.1.2) v1, Kd.N_nil _ _ _ _ _, below_set hB h.ge, mv_set (mv_app h.mv hg hat) 0 v1⟩
theorem n38_tight {e : Nat} {w : World} {base : Nat} {ok ok' : Nat → Prop} {v : Value} {xs : List S38} (h : Kd.N k38 e w base ok v xs) (hok : ∀ k, v.ownBlock = some k → ok' k) : Kd.N k38 e w base ok' v xs := by
  obtain ⟨_, rows, hl, hR, hf⟩ := h
  refine ⟨hok, rows, hl, hR, fun j x c hx hc => ?_⟩
  obtain rfl := k38_open (Kd.FK_now (hf j x c hx hc))
  exact k38_mkF _ _ _
def Off (g : Nat) (v u : Value) (k : Nat) : Prop := (k ≠ g ∧ some k ≠ v.ownBlock) ∧ some k ≠ u.ownBlock
theorem off_move {wI w : World} {g : Nat} {vI uI v u : Value} {A : Option Addr} {n : Nat} {xs : List S38} (m : Moves2 wI w g vI uI v u) (h : Kd.F k38 wI (Off g vI uI) A n xs) : Kd.F k38 w (Off g v u) A n xs := by
  refine Kd.F_mono (Kd.F_step (Kd.F_bound h) (fun k hk hlt => m.frame k hlt hk.1.1.1 hk.1.1.2 hk.1.2)) (fun k hk => ⟨⟨hk.1.1.1, ?_⟩, ?_⟩)
  · rcases m.ownv with e | ⟨b, e, hb⟩
    · rw [e]; exact hk.1.1.2
    · rw [e]; intro h'; injection h' with h'; have := hk.2; omega
  · rcases m.ownu with e | e | ⟨b, e, hb⟩
    · rw [e]; exact hk.1.2
    · rw [e]; simp
    · rw [e]; intro h'; injection h' with h'; have := hk.2; omega
set_option maxRecDepth 100000 in
set_option maxHeartbeats 4000000 in
theorem keep_zero (ok : Nat → Prop) (w0 : World) (g : Nat) (out : List S70) (add : List S84) (cut : Int) (vI uI : Value) (w : World) (A : Option Addr) (c : Nat) (attrs : List S38) (h : WrD ok w0 w g vI uI out add cut vI uI w) :
    Calls Try.prog 86 #[.pointer (some ⟨g, 0, none⟩), .int .i64 0, .slice A attrs.length c] w fun e w' => e = .returned (.tuple #[]) ∧ WrD ok w0 w g vI uI out add cut vI uI w' := by
  have HS := Aside0.mk h
  clear h
  go_enter Try.func86, Try.ntmps86
  go_wp2
  refine bodyPost_ret (results_none (by first | rfl | kernel_rfl) _ _ _) rfl ?_
  exact ⟨rfl, HS.out⟩
set_option maxRecDepth 100000 in
set_option maxHeartbeats 8000000 in
theorem keep_calls (ok : Nat → Prop) (w0 : World) (g : Nat) (out : List S70) (add : List S84) (cut n : Int) (vI uI : Value) (w : World) (k : Nat) (A : Option Addr) (c : Nat) (attrs : List S38) (b : Bool) (h : WrD ok w0 w g vI uI out add cut vI uI w) (hok : ∀ k, w.heap.size ≤ k → ok k)
    (hF : Kd.F k38 w (Off g vI uI) A attrs.length attrs) (hc : attrs.length ≤ c) (hl : (out.length + 3) * 64 ≤ 140737488355328) (hla : attrs.length * 32 ≤ 140737488355328) (hn : n ≠ 0) (hb : keepB k (flushD out add cut) attrs = some b) :
    Calls Try.prog 86 #[.pointer (some ⟨g, 0, none⟩), .int .i64 n, .slice A attrs.length c] w fun e w' => e = .returned (.tuple #[]) ∧ ∃ v, WrD ok w0 w g vI uI (keepO (flushD out add cut) n attrs b) [] 0 v (.slice none 0 0) w' := by
  have hu70 := Try.underlying70
  have hu127 := Try.underlying127
  have hu38 := Try.underlying38
  have HFL := Aside0.mk (flush_calls ok w0 g out add cut vI uI w h hok (by omega))
  have HO := Aside0.mk hok
  have HF := Aside0.mk hF
  have HC := Aside0.mk hc
  have HLA := Aside0.mk hla
  have HL := Aside0.mk (show (flushD out add cut).length ≤ 2199023255551 by have := (flushD_len out add cut).2; omega)
  have c1b : (n == 0) = false := beq_eq_false_iff_ne.mpr hn
  clear h hok hF hc hl hla hn
  obtain ⟨o, ho⟩ : ∃ o, o = flushD out add cut := ⟨_, rfl⟩
  rw [← ho] at HFL HL hb ⊢
  clear ho
  go_enter Try.func86, Try.ntmps86
  go_wp2_with (go_at_call 110; refine HFL.out.mono ?_)
  rintro e w1 ⟨rfl, v, hS⟩
  obtain ⟨A1, n1, rfl⟩ := Kd.N_slice hS.row
  have HS := Aside0.mk hS
  have HF1 := Aside0.mk (off_move hS.mv HF.out)
  have hc0 : w1.cell? ⟨g, 0, none⟩ = some (.slice A1 o.length n1) := (blk_cell HS.out.blk 0).trans rfl
  have hf0 := blk_frozen HS.out.blk 0
  have hg : g < w1.heap.size := blk_lt hS.blk
  have hlen := HL.out
  clear hS HFL HF
  have hc0 : w1.cell? ⟨g, 0, none⟩ = some (.slice A1 o.length n1) := (blk_cell HS.out.blk 0).trans rfl
  go_upto_region 3 with (fail)
  go_cut [41] (fun v41 wx => v41 = .bool b ∧ Aside0 (WrD ok w0 w g vI uI o [] 0 (.slice A1 o.length n1) (.slice none 0 0) wx) ∧ Aside0 (Kd.F k38 wx (Off g (.slice A1 o.length n1) (.slice none 0 0)) A attrs.length attrs))
  case first =>
    by_cases hz : 0 < o.length
    · have p0 : 0 ≤ (o.length : Int) - 1 := by omega
      have q0 : (o.length : Int) - 1 < (o.length : Int) := by omega
      obtain ⟨go, co, eo, gb, gl, cells, hblk⟩ := Kd.N_form HS.out.row hz
      injection eo with ea en ec
      subst ea
      subst ec
      clear en
      obtain ⟨ce, hcl, hM, hcc, hfr⟩ := Kd.N_elem HS.out.row z70 ((o.length : Int) - 1) p0 q0
      obtain ⟨B2, m2, B3, m3, rfl, hm2, hF2, hm3, hF3⟩ := k70_openF hM
      have hix : ∀ j, (((o.length : Int) - 1).toNat * k70.sz + j) = (o.length - 1) * 4 + j := fun j => by show (((o.length : Int) - 1).toNat * 4 + j) = _; omega
      have hx0 : w1.cell? ⟨go, (o.length - 1) * 4, none⟩ = some (.int .i64 (rd_T70 o ((o.length : Int) - 1)).f0) := by
        have := hcc 0 _ rfl
        rwa [hix] at this
      have hx2 : w1.cell? ⟨go, (o.length - 1) * 4 + 2, none⟩ = some (.slice B2 (rd_T70 o ((o.length : Int) - 1)).f2.length m2) := by
        have := hcc 2 _ rfl
        rwa [hix] at this
      rw [keepB, if_pos hz] at hb
      by_cases hkp : (rd_T70 o ((o.length : Int) - 1)).f0 = 0
      · rw [if_pos hkp] at hb
        have c4 : ((rd_T70 o ((o.length : Int) - 1)).f0 == 0) = true := beq_iff_eq.mpr hkp
        have HB := Aside0.mk hb
        have HM2 := Aside0.mk hm2
        have HF2 := Aside0.mk hF2
        clear hb hm2 hF2 hm3 hF3 hM hcc hcl gb hkp gl hblk hfr hix
        go_wp2_with (go_at_call 111; refine (attr_Same.calls k B2 m2 (rd_T70 o ((o.length : Int) - 1)).f2 A c attrs b _ (Kd.F_now HF2.out) HM2.out (Kd.F_now HF1.out) HC.out HB.out).mono ?_; rintro e w2 ⟨rfl, hd⟩; obtain ⟨nd, rfl⟩ := hd)
        go_meet
        case rel => exact ⟨by cases b <;> rfl, ⟨HS.out.drewN nd⟩, ⟨Kd.F_drewN HF1.out nd⟩⟩
      · rw [if_neg hkp] at hb
        obtain rfl := Option.some.inj hb
        have c4 : ((rd_T70 o ((o.length : Int) - 1)).f0 == 0) = false := beq_eq_false_iff_ne.mpr hkp
        clear hb hm2 hF2 hm3 hF3 hM hcc hcl gb hkp gl hblk hfr hix
        go_wp2
        go_meet
        case rel => exact ⟨rfl, HS, HF1⟩
    · have hnil : o = [] := List.eq_nil_of_length_eq_zero (by omega)
      subst hnil
      rw [keepB, if_neg (by decide)] at hb
      obtain rfl := Option.some.inj hb
      go_wp2
      go_meet
      case rel => exact ⟨rfl, HS, HF1⟩
  case rest =>
    clear HS HF1 hc0 hf0 hg
    obtain ⟨rfl, HS, HF1⟩ := hcut
    have hc0 : wc.cell? ⟨g, 0, none⟩ = some (.slice A1 o.length n1) := (blk_cell HS.out.blk 0).trans rfl
    have hf0 := blk_frozen HS.out.blk 0
    have hg : g < wc.heap.size := blk_lt HS.out.blk
    cases b with
    | true =>
      have hz : 0 < o.length := by
        rw [keepB] at hb
        by_cases hz : 0 < o.length
        · exact hz
        · rw [if_neg hz] at hb; cases hb
      clear hb
      have p0 : 0 ≤ (o.length : Int) - 1 := by omega
      have q0 : (o.length : Int) - 1 < (o.length : Int) := by omega
      obtain ⟨go, co, eo, gb, gl, cells, hblk⟩ := Kd.N_form HS.out.row hz
      injection eo with ea en ec
      subst ea
      subst ec
      clear en
      obtain ⟨ce, hcl, hM, hcc, hfr⟩ := Kd.N_elem HS.out.row z70 ((o.length : Int) - 1) p0 q0
      obtain ⟨B2, m2, B3, m3, rfl, hm2, hF2, hm3, hF3⟩ := k70_openF hM
      have hne : go ≠ g := fun e => Kd.N_away HS.out.row (fun _ hk => hk.1.2) (by rw [e]; rfl)
      have hix : ∀ j, (((o.length : Int) - 1).toNat * k70.sz + j) = (o.length - 1) * 4 + j := fun j => by show (((o.length : Int) - 1).toNat * 4 + j) = _; omega
      have hx1 : wc.cell? ⟨go, (o.length - 1) * 4 + 1, none⟩ = some (.int .i64 (rd_T70 o ((o.length : Int) - 1)).f1) := by
        have := hcc 1 _ rfl
        rwa [hix] at this
      have hfx1 : wc.frozen? ⟨go, (o.length - 1) * 4 + 1, none⟩ = false := by
        have := hfr 1
        rwa [hix] at this
      have HSEG := Aside0.mk (Kd.N_seg HS.out.row ((o.length : Int) - 1) p0 q0 (seg := [.int .i64 (wrap64 ((rd_T70 o ((o.length : Int) - 1)).f1 + n))]) (j := 1) hcl hcc (by show 2 ≤ 4; omega)
        (x' := (⟨(rd_T70 o ((o.length : Int) - 1)).f0, wrap64 ((rd_T70 o ((o.length : Int) - 1)).f1 + n), (rd_T70 o ((o.length : Int) - 1)).f2, (rd_T70 o ((o.length : Int) - 1)).f3⟩ : S70)) (k70_mkF _ _ ⟨(rd_T70 o ((o.length : Int) - 1)).f0, wrap64 ((rd_T70 o ((o.length : Int) - 1)).f1 + n), (rd_T70 o ((o.length : Int) - 1)).f2, (rd_T70 o ((o.length : Int) - 1)).f3⟩ hm2 hF2 hm3 hF3) (fun _ hk => hk))
      have HN := Aside0.mk hne
      have HGB := Aside0.mk gb
      clear hcl hM hcc hfr gb gl hblk hne hm2 hF2 hm3 hF3 hix
      go_wp2
      refine bodyPost_ret (results_none (by first | rfl | kernel_rfl) _ _ _) rfl ?_
      refine ⟨rfl, .slice (some ⟨go, 0, none⟩) o.length n1, ?_⟩
      have h2 := HSEG.out.1
      simp only [World.setCells, show k70.sz = 4 from rfl, show ((o.length : Int) - 1).toNat = o.length - 1 by omega] at h2
      exact wrd_seg HS.out HN.out HGB.out h2
    | false =>
      clear hb
      have HD := Aside0.mk HS.out.drew
      have HFD := Aside0.mk (Kd.F_drew HF1.out)
      go_upto_region 5 with (fail)
      refine start_ (n := 14) (S := fun w' => w'.cell? ⟨g, 0, none⟩ = some (.slice A1 o.length n1)) (ds := [13]) #[false, false, false, false, false, false, false, false, false, false, false, false, false, false] (by kernel_rfl) rfl rfl (((blk_cell HD.out.blk 0).trans rfl)) (fun hHeld => ?_)
      refine pure_ (i := 0) (N := some 54) (v := ?_) (a' := ?_) (bm 1 14) rfl rfl (by kernel_rfl) (fun _ _ _ h => h) (Or.inl ⟨by rfl, ?_⟩) ?_ ?_
      rotate_left
      · intro w'
        go_simp
        with_reducible rfl
      rotate_left
      · simp only [Act.put, List.setIfInBounds_toArray, List.set_cons_zero, List.set_cons_succ, i64_w, i32_w]
        rfl
      refine pure_ (i := 1) (N := some 55) (v := ?_) (a' := ?_) (bm 3 14) rfl rfl (by kernel_rfl) (fun _ _ _ h => h) (Or.inl ⟨by rfl, ?_⟩) ?_ ?_
      rotate_left
      · intro w'
        go_simp
        with_reducible rfl
      rotate_left
      · simp only [Act.put, List.setIfInBounds_toArray, List.set_cons_zero, List.set_cons_succ, i64_w, i32_w]
        rfl
      refine pure_ (i := 2) (N := some 56) (v := ?_) (a' := ?_) (bm 7 14) rfl rfl (by kernel_rfl) (fun _ _ _ h => h) (Or.inl ⟨by rfl, ?_⟩) ?_ ?_
      rotate_left
      · intro w'
        go_simp
        with_reducible rfl
      rotate_left
      · simp only [Act.put, List.setIfInBounds_toArray, List.set_cons_zero, List.set_cons_succ, i64_w, i32_w]
        rfl
      refine pure_ (i := 3) (N := some 57) (v := ?_) (a' := ?_) (bm 15 14) rfl rfl (by kernel_rfl) (fun _ _ _ h => h) (Or.inl ⟨by rfl, ?_⟩) ?_ ?_
      rotate_left
      · intro w'
        go_simp
        with_reducible rfl
      rotate_left
      · simp only [Act.put, List.setIfInBounds_toArray, List.set_cons_zero, List.set_cons_succ, i64_w, i32_w]
        rfl
      refine pure_ (i := 5) (N := some 59) (v := ?_) (a' := ?_) (bm 47 14) rfl rfl (by kernel_rfl) (fun _ _ _ h => h) (Or.inl ⟨by rfl, ?_⟩) ?_ ?_
      rotate_left
      · intro w'
        go_simp
        with_reducible rfl
      rotate_left
      · simp only [Act.put, List.setIfInBounds_toArray, List.set_cons_zero, List.set_cons_succ, i64_w, i32_w]
        rfl
      refine pure_ (i := 6) (N := some 60) (v := ?_) (a' := ?_) (bm 111 14) rfl rfl (by kernel_rfl) (fun _ _ _ h => h) (Or.inl ⟨by rfl, ?_⟩) ?_ ?_
      rotate_left
      · intro w'
        go_simp
        with_reducible rfl
      rotate_left
      · simp only [Act.put, List.setIfInBounds_toArray, List.set_cons_zero, List.set_cons_succ, i64_w, i32_w]
        rfl
      refine take_ (i := 4) (N := some 58) (v := ?_) (a' := ?_) (bm 127 14) rfl rfl (by kernel_rfl) (fun _ _ _ h => h) (Or.inl ⟨by rfl, ?_⟩) hHeld ?_ ?_
      rotate_left
      · intro w' s0
        go_simp
        with_reducible rfl
      rotate_left
      · simp only [Act.put, List.setIfInBounds_toArray, List.set_cons_zero, List.set_cons_succ, i64_w, i32_w]
        rfl
      refine one_ (i := 7) (N := some 61) (bm 255 14) rfl rfl (by kernel_rfl) (by decide) (fun K hK => ?_)
      refine Kd.N_append_rows_step k38 (w0 := wc.drew) wc.drew.heap.size (by rfl) (.const (.slice none 0 0)) (.tmp 60) 32 38 (.agg #[.string ⟨#[]⟩, .string ⟨#[]⟩]) 32 rfl Try.underlying32 info38 rfl (by decide) (by decide) (.slice none 0 0) [] attrs _ _ _ (fun _ => True) (Off g (.slice A1 o.length n1) (.slice none 0 0)) (by rfl) (by rfl) (Kd.N_nil _ _ _ _ _) HFD.out (fun _ _ => ⟨trivial, by simp [Value.ownBlock]⟩) (fun _ _ => trivial) (Below.refl _ _) (Nat.le_refl _) (by have := HLA.out; simp only [List.length_nil, Nat.zero_add]; exact this) ?_
      intro v3 w3 hN3 hb3 hg3 hat3
      rw [List.nil_append] at hN3
      replace hN3 := n38_tight hN3 (ok' := fun k => wc.drew.heap.size ≤ k) (fun k hk => Kd.N_base hN3 k hk)
      obtain ⟨A3, n3, rfl⟩ := Kd.N_slice hN3
      have HD3 := Aside0.mk (HD.out.below hb3)
      have HN3 := Aside0.mk hN3
      clear hN3 hb3 hg3 hat3
      refine hK.out _ _ (((blk_cell HD3.out.blk 0).trans rfl)) (fun hHeld => ?_)
      clear hK K
      refine norm_ (a' := ?_) ?_ ?_
      rotate_left
      · show Act.put _ (some 61) _ = _
        simp only [Act.put, List.setIfInBounds_toArray, List.set_cons_zero, List.set_cons_succ, i64_w, i32_w]
        rfl
      refine pure_ (i := 8) (N := some 62) (v := ?_) (a' := ?_) (bm 511 14) rfl rfl (by kernel_rfl) (fun _ _ _ h => h) (Or.inl ⟨by rfl, ?_⟩) ?_ ?_
      rotate_left
      · intro w'
        go_simp
        with_reducible rfl
      rotate_left
      · simp only [Act.put, List.setIfInBounds_toArray, List.set_cons_zero, List.set_cons_succ, i64_w, i32_w]
        rfl
      refine one_ (i := 9) (N := some 63) (bm 1023 14) rfl rfl (by kernel_rfl) (by decide) (fun K hK => ?_)
      refine value_ (w1 := ?_) (v := ?_) (by rfl) rfl ?_ ?_
      rotate_left 2
      · go_simp
        constructor
        · rfl
        · rfl
      refine hK.out _ _ (((blk_cell (blk_alloc HD3.out.blk _) 0).trans rfl)) (fun hHeld => ?_)
      clear hK K
      refine norm_ (a' := ?_) ?_ ?_
      rotate_left
      · show Act.put _ (some 63) _ = _
        simp only [Act.put, List.setIfInBounds_toArray, List.set_cons_zero, List.set_cons_succ, i64_w, i32_w]
        rfl
      refine one_ (i := 10) (N := some 64) (bm 2047 14) rfl rfl (by kernel_rfl) (by decide) (fun K hK => ?_)
      refine Kd.N_append_step k70 (w0 := w0) w0.heap.size (by rfl) (.tmp 58) (.tmp 63) 64 70 (.agg #[.int .i64 0, .int .i64 0, .slice none 0 0, .slice none 0 0]) 64 rfl Try.underlying64 info70 rfl (by decide) (by decide) _ o ⟨0, n, attrs, []⟩ [.int .i64 0, .int .i64 n, .slice A3 attrs.length n3, .slice none 0 0] (fun k => (ok k ∧ k ≠ g) ∧ some k ≠ (Value.slice none 0 0).ownBlock) (fun k => wc.drew.heap.size ≤ k) (by rfl) (by rfl) (k70_mkF _ _ ⟨0, n, attrs, []⟩ (Kd.N_reads' HN3.out).2.1 (Kd.N_F HN3.out) (Nat.le_refl 0) (Kd.F_nil _ _ _)) (fun k hk => ⟨⟨(HD.out.fresh HO.out k hk).1.1, by simp [Value.ownBlock]⟩, (HD.out.fresh HO.out k hk).1.2⟩) (fun k hk => ⟨(HD3.out.fresh HO.out k hk).1.1, by simp [Value.ownBlock]⟩) HD3.out.row HD3.out.bel HD3.out.bel.size (by have := HL.out; omega) ?_
      intro v1 w4 hR1 hB1 hg1 hat
      obtain ⟨A4, n4, rfl⟩ := Kd.N_slice hR1
      obtain ⟨hb1, hW⟩ := HD3.out.appv hR1 hB1 hg1 hat
      have HW := Aside0.mk hW
      have hd0 : w4.cell? ⟨g, 0, none⟩ = some (.slice A1 o.length n1) := (blk_cell hb1 0).trans rfl
      have hdf := blk_frozen hb1 0
      clear hR1 hB1 hg1 hat hb1 hW
      refine hK.out _ _ (hd0) (fun hHeld => ?_)
      clear hK K
      refine norm_ (a' := ?_) ?_ ?_
      rotate_left
      · show Act.put _ (some 64) _ = _
        simp only [Act.put, List.setIfInBounds_toArray, List.set_cons_zero, List.set_cons_succ, i64_w, i32_w]
        rfl
      refine pure_ (i := 11) (N := some 65) (v := ?_) (a' := ?_) (bm 4095 14) rfl rfl (by kernel_rfl) (fun _ _ _ h => h) (Or.inl ⟨by rfl, ?_⟩) ?_ ?_
      rotate_left
      · intro w'
        go_simp
        with_reducible rfl
      rotate_left
      · simp only [Act.put, List.setIfInBounds_toArray, List.set_cons_zero, List.set_cons_succ, i64_w, i32_w]
        rfl
      refine pure_ (i := 12) (N := some 66) (v := ?_) (a' := ?_) (bm 8191 14) rfl rfl (by kernel_rfl) (fun _ _ _ h => h) (Or.inl ⟨by rfl, ?_⟩) ?_ ?_
      rotate_left
      · intro w'
        go_simp
        with_reducible rfl
      rotate_left
      · simp only [Act.put, List.setIfInBounds_toArray, List.set_cons_zero, List.set_cons_succ, i64_w, i32_w]
        rfl
      refine last_ (i := 13) (N := none) (bm 16383 14) rfl rfl (by kernel_rfl) (by decide) (fun K hK => ?_)
      refine skip_ (w1 := ?_) (by rfl) rfl ?_ ?_
      rotate_left
      · go_simp
        rfl
      refine hK.out _ _ ?_
      clear hK K
      refine done_ (by kernel_rfl) ?_
      go_wp2
      go_end0
      exact ⟨rfl, _, by have := HW.out; rw [List.length_append] at this; exact this⟩
structure WD where
  out : List S70
  add : List S84
  cut : Int
def keepF (k : Nat) (s : WD) (n : Int) (attrs : List S38) : Option WD :=
  if n = 0 then some s else if 1099511627776 < s.out.length ∨ 1099511627776 < attrs.length then none else (keepB k (flushD s.out s.add s.cut) attrs).bind fun b => some ⟨keepO (flushD s.out s.add s.cut) n attrs b, [], 0⟩
def elemsF (k : Nat) (s : WD) (l : List S84) : Option WD :=
  (flow_Copy.f k l).bind fun r => if 1099511627776 < s.add.length + r.length then none else some ⟨s.out, s.add ++ r, s.cut⟩
def doneD (k : Nat) (s : WD) : Option (List S70 × Int) :=
  if 1099511627776 < s.out.length then none else (delta_Check.f k (flushD s.out s.add s.cut)).bind fun e => if e ≠ 0 then some ([], 3) else some (flushD s.out s.add s.cut, 0)
def WrS (ok : Nat → Prop) (w0 wI : World) (g : Nat) (vI uI : Value) (s : WD) (v u : Value) (w : World) : Prop := WrD ok w0 wI g vI uI s.out s.add s.cut v u w
theorem keepF_calls (ok : Nat → Prop) (w0 : World) (g : Nat) (s s' : WD) (n : Int) (vI uI : Value) (w : World) (k : Nat) (A : Option Addr) (c : Nat) (attrs : List S38) (h : WrS ok w0 w g vI uI s vI uI w) (hok : ∀ k, w.heap.size ≤ k → ok k)
    (hF : Kd.F k38 w (Off g vI uI) A attrs.length attrs) (hc : attrs.length ≤ c) (hf : keepF k s n attrs = some s') :
    Calls Try.prog 86 #[.pointer (some ⟨g, 0, none⟩), .int .i64 n, .slice A attrs.length c] w fun e w' => e = .returned (.tuple #[]) ∧ ∃ v u, WrS ok w0 w g vI uI s' v u w' := by
  rw [keepF] at hf
  by_cases c1 : n = 0
  · rw [if_pos c1] at hf
    injection hf with hf
    subst hf
    subst c1
    exact (keep_zero ok w0 g s.out s.add s.cut vI uI w A c attrs h).mono (fun e w' ⟨he, hw⟩ => ⟨he, vI, uI, hw⟩)
  · rw [if_neg c1] at hf
    by_cases c2 : 1099511627776 < s.out.length ∨ 1099511627776 < attrs.length
    · rw [if_pos c2] at hf
      cases hf
    rw [if_neg c2] at hf
    obtain ⟨b, hb, hf⟩ := Option.bind_eq_some_iff.1 hf
    injection hf with hf
    subst hf
    exact (keep_calls ok w0 g s.out s.add s.cut n vI uI w k A c attrs b h hok hF hc (by omega) (by omega) c1 hb).mono (fun e w' ⟨he, v, hw⟩ => ⟨he, v, _, hw⟩)
theorem elemsF_calls (ok : Nat → Prop) (w0 : World) (g : Nat) (s s' : WD) (vI uI : Value) (w : World) (k : Nat) (A : Option Addr) (c : Nat) (l : List S84) (h : WrS ok w0 w g vI uI s vI uI w) (hok : ∀ k, w.heap.size ≤ k → ok k)
    (hr : Kd.C k84 w A l.length l) (hc : l.length ≤ c) (hf : elemsF k s l = some s') :
    Calls Try.prog 87 #[.pointer (some ⟨g, 0, none⟩), .slice A l.length c] w fun e w' => e = .returned (.tuple #[]) ∧ ∃ v u, WrS ok w0 w g vI uI s' v u w' := by
  obtain ⟨r, hr2, hf⟩ := Option.bind_eq_some_iff.1 hf
  by_cases c2 : 1099511627776 < s.add.length + r.length
  · rw [if_pos c2] at hf
    cases hf
  rw [if_neg c2] at hf
  injection hf with hf
  subst hf
  exact (elems_calls ok w0 g s.out s.add s.cut vI uI w k A c l r h hok hr hc hr2 (by omega)).mono (fun e w' ⟨he, u, hw⟩ => ⟨he, _, u, hw⟩)
set_option maxRecDepth 100000 in
set_option maxHeartbeats 4000000 in
theorem doneD_calls (ok : Nat → Prop) (w0 : World) (g : Nat) (s : WD) (r1 : List S70) (r2 : Int) (vI uI : Value) (w : World) (k : Nat) (h : WrS ok w0 w g vI uI s vI uI w) (hok : ∀ k, w.heap.size ≤ k → ok k) (hf : doneD k s = some (r1, r2)) :
    Calls Try.prog 88 #[.pointer (some ⟨g, 0, none⟩)] w fun e w' => ∃ v, e = .returned (.tuple #[v, .int .i64 r2]) ∧ Kd.N k70 70 w' w0.heap.size (fun k => ok k ∧ k ≠ g) v r1 ∧ Below w0.heap.size w0 w' ∧ ∃ vM, Moves2 w w' g vI uI vM (.slice none 0 0) ∧ (v.ownBlock = none ∨ v = vM) := by
  have hu70 := Try.underlying70
  have hu127 := Try.underlying127
  rw [doneD] at hf
  by_cases c2 : 1099511627776 < s.out.length
  · rw [if_pos c2] at hf
    cases hf
  rw [if_neg c2] at hf
  have HF := Aside0.mk (flush_calls ok w0 g s.out s.add s.cut vI uI w h hok (by omega))
  obtain ⟨o, ho⟩ : ∃ o, o = flushD s.out s.add s.cut := ⟨_, rfl⟩
  rw [← ho] at HF hf
  clear ho h hok c2
  replace hf := Option.bind_eq_some_iff.1 hf
  obtain ⟨e, he, hf⟩ := hf
  have HE := Aside0.mk he
  clear he
  by_cases c1 : e ≠ 0
  · rw [if_pos c1] at hf
    have c1b : (e != 0) = true := bne_iff_ne.mpr c1
    simp only [Option.some.injEq, Prod.mk.injEq] at hf
    obtain ⟨rfl, rfl⟩ := hf
    clear c1
    go_enter Try.func88, Try.ntmps88
    go_wp2_with (go_at_call 110; refine HF.out.mono ?_)
    rintro e1 w1 ⟨rfl, v, hS⟩
    obtain ⟨A1, n1, rfl⟩ := Kd.N_slice hS.row
    have HS := Aside0.mk hS
    have hc0 : w1.cell? ⟨g, 0, none⟩ = some (.slice A1 o.length n1) := (blk_cell HS.out.blk 0).trans rfl
    clear hS HF
    go_wp2_with (go_at_call 93; (with_reducible refine (delta_Check.calls k _ _ o e _ (Kd.N_reads' HS.out.row).2.2 (Kd.N_reads' HS.out.row).2.1 HE.out).mono ?_); rintro e1 w2 ⟨rfl, hb⟩; have HB2 := Aside0.mk hb; clear hb)
    first | go_ret | go_ret2
    refine ⟨_, rfl, Kd.N_nil _ _ _ _ _, below_step HS.out.bel HB2.out, _, (HS.out.below HB2.out).mv, .inl rfl⟩
  · rw [if_neg c1] at hf
    have c1b : (e != 0) = false := by simpa using c1
    simp only [Option.some.injEq, Prod.mk.injEq] at hf
    obtain ⟨rfl, rfl⟩ := hf
    clear c1
    go_enter Try.func88, Try.ntmps88
    go_wp2_with (go_at_call 110; refine HF.out.mono ?_)
    rintro e1 w1 ⟨rfl, v, hS⟩
    obtain ⟨A1, n1, rfl⟩ := Kd.N_slice hS.row
    have HS := Aside0.mk hS
    have hc0 : w1.cell? ⟨g, 0, none⟩ = some (.slice A1 o.length n1) := (blk_cell HS.out.blk 0).trans rfl
    have hglt := blk_lt hS.blk
    clear hS HF
    go_wp2_with (go_at_call 93; (with_reducible refine (delta_Check.calls k _ _ o e _ (Kd.N_reads' HS.out.row).2.2 (Kd.N_reads' HS.out.row).2.1 HE.out).mono ?_); rintro e1 w2 ⟨rfl, hb⟩; have HB2 := Aside0.mk hb; clear hb; replace hc0 := (HB2.out.cell hglt).trans hc0)
    first | go_ret | go_ret2
    exact ⟨_, rfl, (HS.out.below HB2.out).weak.row, below_step HS.out.bel HB2.out, _, (HS.out.below HB2.out).mv, .inr rfl⟩
theorem drop_T70 (l : List S70) (i : Nat) (h : i < l.length) : l.drop i = rd_T70 l (i : Int) :: l.drop (i + 1) := by
  rw [List.drop_eq_getElem_cons h]
  simp [rd_T70, List.getD_eq_getElem?_getD, List.getElem?_eq_getElem h]
theorem off_in {ok : Nat → Prop} {w0 wI w : World} {g : Nat} {vI uI v u : Value} {s : WD} {A : Option Addr} {n : Nat} {xs : List S38} (hs : WrS ok w0 wI g vI uI s v u w) (h : Kd.C k38 w0 A n xs) : Kd.F k38 w (Off g v u) A n xs := by
  refine Kd.F_mono (Kd.F_step (Kd.C_F k38_heap h) (fun k hk _ => hs.bel.block k hk)) (fun k hk => ⟨⟨fun e => ?_, fun e => ?_⟩, fun e => ?_⟩)
  · have := hs.ge; omega
  · have := Kd.N_base hs.row k e.symm; omega
  · have := Kd.N_base hs.radd k e.symm; omega
theorem WrS.fwd {ok : Nat → Prop} {w0 wI w w1 : World} {g : Nat} {vI uI v u : Value} {s : WD} (h : WrS ok w0 wI g vI uI s v u w) (hb : Below w.heap.size w w1) : WrS ok w0 w1 g v u s v u w1 := WrD.here (WrD.below h hb)
theorem drop_T84 (l : List S84) (i : Nat) (h : i < l.length) : l.drop i = rd_T84 l (i : Int) :: l.drop (i + 1) := by
  rw [List.drop_eq_getElem_cons h]
  simp [rd_T84, List.getD_eq_getElem?_getD, List.getElem?_eq_getElem h]
theorem off_keep {wI w : World} {g : Nat} {vI uI v u : Value} {k : Nat} (m : Moves2 wI w g vI uI v u) (h : Off g vI uI k) (hk : k < wI.heap.size) : Off g v u k ∧ w.heap[k]? = wI.heap[k]? := by
  refine ⟨⟨⟨h.1.1, ?_⟩, ?_⟩, m.frame k hk h.1.1 h.1.2 h.2⟩
  · rcases m.ownv with e | ⟨b, e, hb⟩
    · rw [e]; exact h.1.2
    · rw [e]; intro h'; injection h' with h'; omega
  · rcases m.ownu with e | e | ⟨b, e, hb⟩
    · rw [e]; exact h.2
    · rw [e]; simp
    · rw [e]; intro h'; injection h' with h'; omega
theorem off_new {ok : Nat → Prop} {w0 wI W w : World} {g : Nat} {vI uI v u : Value} {s : WD} {A : Option Addr} {n c : Nat} {xs : List S38} {okr : Nat → Prop} (hs : WrS ok w0 wI g vI uI s v u W) (h : Kd.R k38 38 w W.heap.size okr (.slice A n c) xs) : Kd.F k38 w (Off g v u) A n xs := by
  refine Kd.F_mono (Kd.R_F (Kd.R_bound h)) (fun k hk => ?_)
  have h1 := hk.2.1
  refine ⟨⟨fun e => ?_, fun e => ?_⟩, fun e => ?_⟩
  · have := blk_lt hs.blk; omega
  · have := Kd.N_lt hs.row k e.symm; omega
  · have := Kd.N_lt hs.radd k e.symm; omega
section
variable {w0 : World} {gw : Nat} {s s' : WD} {gb : Nat} {x : S70} {A2 : Option Addr} {c2 : Nat} {A3 : Option Addr} {c3 : Nat} {wr w1 : World} {gx : Nat} {y : S84} {B2 : Option Addr} {m2 : Nat}
end
end Go.Proofs.Ytdgemabmmomebaa.PDelta
end
section
namespace Go.Proofs.Ytdgemabmmomebaa.PDelta
open Go.RowKit Go.Proofs.YtdgemabmmomebaaW.PrintWords Go.Proofs.YtdgemabmmomebaaW.PrintLast Go.Proofs.YtdgemabmmomebaaW.PrintMore
attribute [local go_sem] max2_int min2_int max_two min_two max_three min_three max_four min_four
attribute [local go_sem high] Go.Proofs.Ytdgemabmmomebaa.Ord.leq_str Go.Proofs.Ytdgemabmmomebaa.Ord.gtr_str Go.Proofs.Ytdgemabmmomebaa.Ord.geq_str


end Go.Proofs.Ytdgemabmmomebaa.PDelta
end
section
namespace Go.Proofs.Ytdgemabmmomebaa.PDelta
open Go.RowKit Go.Proofs.YtdgemabmmomebaaW.PrintWords Go.Proofs.YtdgemabmmomebaaW.PrintLast Go.Proofs.YtdgemabmmomebaaW.PrintMore
theorem drop_T38 (l : List S38) (i : Nat) (h : i < l.length) : l.drop i = rd_T38 l (i : Int) :: l.drop (i + 1) := by
  rw [List.drop_eq_getElem_cons h]
  simp [rd_T38, List.getD_eq_getElem?_getD, List.getElem?_eq_getElem h]
theorem neq_cond (x y : S38) : ((!(x.f0.toList == y.f0.toList) || (!(x.f1.toList == y.f1.toList))) = true) ↔ x ≠ y := by
  rw [Bool.or_eq_true, Bool.not_eq_true', Bool.not_eq_true', beq_eq_false_iff_ne, beq_eq_false_iff_ne]
  constructor
  · rintro h rfl
    rcases h with h | h <;> exact h rfl
  · intro h
    by_cases h0 : x.f0.toList = y.f0.toList
    · exact .inr (fun h1 => h (s38_ext h0 h1))
    · exact .inl h0
theorem asame_l0 (a b : List S38) (hs : a.length ≤ 1099511627776) (hl : a.length = b.length) (d : Nat) : ∀ i : Nat, i + d = a.length → ∃ r, Ev (fun k => attr_Same.l0 k a b (a.length : Int) (i : Int)) r ∧ (r = true ↔ a.drop i = b.drop i) := by
  induction d with
  | zero =>
    intro i hi
    refine ⟨true, Ev.step (f := fun _ => some true) (fun k => ?_) (Ev.now true), ⟨fun _ => by rw [List.drop_eq_nil_of_le (by omega), List.drop_eq_nil_of_le (by omega)], fun _ => rfl⟩⟩
    simp only [attr_Same.l0]
    rw [if_neg (by omega)]
  | succ d ih =>
    intro i hi
    obtain ⟨r, hr, hri⟩ := ih (i + 1) (by omega)
    have e : ∀ k, attr_Same.l0 (k + 1) a b (a.length : Int) (i : Int) = if (!(((rd_T38 a (i : Int)).f0).toList == ((rd_T38 b (i : Int)).f0).toList) || (!(((rd_T38 a (i : Int)).f1).toList == ((rd_T38 b (i : Int)).f1).toList))) = true then some false else attr_Same.l0 k a b (a.length : Int) ((i + 1 : Nat) : Int) := fun k => by
      simp only [attr_Same.l0]
      rw [if_pos (by omega), if_pos (by omega), if_pos (by omega), if_pos (by omega), wrap_up (by omega) (by omega)]
      rfl
    rw [drop_T38 a i (by omega), drop_T38 b i (by omega)]
    by_cases hx : rd_T38 a (i : Int) = rd_T38 b (i : Int)
    · refine ⟨r, Ev.step (fun k => by rw [e, if_neg (fun h => (neq_cond _ _).1 h hx)]) hr, hri.trans ⟨fun h => by rw [hx, h], fun h => (List.cons.inj h).2⟩⟩
    · exact ⟨false, Ev.step (f := fun _ => some false) (fun k => by rw [e, if_pos ((neq_cond _ _).2 hx)]) (Ev.now false), ⟨(fun h => by cases h), (fun h => absurd (List.cons.inj h).1 hx)⟩⟩
theorem asame_ev (a b : List S38) (hs : a.length ≤ 1099511627776) : ∃ r, Ev (fun k => attr_Same.f k a b) r ∧ (r = true ↔ a = b) := by
  by_cases hl : a.length = b.length
  · obtain ⟨r, hr, hri⟩ := asame_l0 a b hs hl a.length 0 (by omega)
    refine ⟨r, Ev.congr (fun k => ?_) hr, hri⟩
    unfold attr_Same.f
    rw [if_pos (by omega)]
    rfl
  · refine ⟨false, Ev.congr (fun k => ?_) (Ev.now false), ⟨(fun h => by cases h), (fun h => absurd (congrArg List.length h) hl)⟩⟩
    unfold attr_Same.f
    rw [if_neg (by omega)]
theorem rsame_l0 (a b : List S38) (hs : a.length ≤ 1099511627776) (hl : a.length = b.length) (d : Nat) : ∀ i : Nat, i + d = a.length → ∃ r, Ev (fun k => chanceryref1_SameAttrs.l0 k a b (a.length : Int) (i : Int)) r ∧ (r = true ↔ a.drop i = b.drop i) := by
  induction d with
  | zero =>
    intro i hi
    refine ⟨true, Ev.step (f := fun _ => some true) (fun k => ?_) (Ev.now true), ⟨fun _ => by rw [List.drop_eq_nil_of_le (by omega), List.drop_eq_nil_of_le (by omega)], fun _ => rfl⟩⟩
    simp only [chanceryref1_SameAttrs.l0]
    rw [if_neg (by omega)]
  | succ d ih =>
    intro i hi
    obtain ⟨r, hr, hri⟩ := ih (i + 1) (by omega)
    have e : ∀ k, chanceryref1_SameAttrs.l0 (k + 1) a b (a.length : Int) (i : Int) = if (!(((rd_T38 a (i : Int)).f0).toList == ((rd_T38 b (i : Int)).f0).toList) || (!(((rd_T38 a (i : Int)).f1).toList == ((rd_T38 b (i : Int)).f1).toList))) = true then some false else chanceryref1_SameAttrs.l0 k a b (a.length : Int) ((i + 1 : Nat) : Int) := fun k => by
      simp only [chanceryref1_SameAttrs.l0]
      rw [if_pos (by omega), if_pos (by omega), if_pos (by omega), if_pos (by omega), wrap_up (by omega) (by omega)]
      rfl
    rw [drop_T38 a i (by omega), drop_T38 b i (by omega)]
    by_cases hx : rd_T38 a (i : Int) = rd_T38 b (i : Int)
    · refine ⟨r, Ev.step (fun k => by rw [e, if_neg (fun h => (neq_cond _ _).1 h hx)]) hr, hri.trans ⟨fun h => by rw [hx, h], fun h => (List.cons.inj h).2⟩⟩
    · exact ⟨false, Ev.step (f := fun _ => some false) (fun k => by rw [e, if_pos ((neq_cond _ _).2 hx)]) (Ev.now false), ⟨(fun h => by cases h), (fun h => absurd (List.cons.inj h).1 hx)⟩⟩
theorem rsame_ev (a b : List S38) (hs : a.length ≤ 1099511627776) : ∃ r, Ev (fun k => chanceryref1_SameAttrs.f k a b) r ∧ (r = true ↔ a = b) := by
  by_cases hl : a.length = b.length
  · obtain ⟨r, hr, hri⟩ := rsame_l0 a b hs hl a.length 0 (by omega)
    refine ⟨r, Ev.congr (fun k => ?_) hr, hri⟩
    unfold chanceryref1_SameAttrs.f
    rw [if_pos (by omega)]
    rfl
  · refine ⟨false, Ev.congr (fun k => ?_) (Ev.now false), ⟨(fun h => by cases h), (fun h => absurd (congrArg List.length h) hl)⟩⟩
    unfold chanceryref1_SameAttrs.f
    rw [if_neg (by omega)]
def StepOK (s : S70) : Prop :=
  (s.f0 = 0 ∧ 1 ≤ s.f1 ∧ s.f1 ≤ 2147483647 ∧ s.f3 = [] ∧ VA true s.f2) ∨ (s.f0 = 1 ∧ s.f1 = 0 ∧ s.f2 = [] ∧ s.f3 ≠ [] ∧ POK s.f3) ∨ (s.f0 = 2 ∧ 1 ≤ s.f1 ∧ s.f1 ≤ 2147483647 ∧ s.f3 = [] ∧ s.f2 = [])
def SSm (s : S70) : Prop := Small s.f2 ∧ FSmall s.f3
theorem va_nil (ch : Bool) : VA ch [] := ⟨(fun x hx => by cases hx), List.Pairwise.nil⟩
theorem len_pos {α : Type} {l : List α} : (l.length : Int) > 0 ↔ l ≠ [] := by
  cases l with
  | nil => simp
  | cons a l => simp
theorem step_ev (s : S70) (hs : SSm s) : ∃ r : Int, Ev (fun k => delta_step.f k s.f0 s.f1 s.f2 s.f3) r ∧ (r = 0 ↔ StepOK s) := by
  obtain ⟨c, hc, hci⟩ := chkc_ev s.f2 hs.1
  obtain ⟨p, hp, hpi⟩ := part_ev s.f3 hs.2
  have j1 : ∀ b : Bool, ∃ r : Int, Ev (fun k => delta_step.j1 k b s.f0 s.f1 s.f2 s.f3) r ∧ (r = 0 ↔ b = false ∧ 1 ≤ s.f1 ∧ s.f1 ≤ 2147483647 ∧ VA true s.f2) := by
    intro b
    cases b with
    | true => exact ⟨4, Ev.step (f := fun _ => some 4) (fun k => by simp only [delta_step.j1]; rw [if_pos trivial]) (Ev.now 4), by simp⟩
    | false =>
      by_cases h1 : s.f1 < 1
      · exact ⟨2, Ev.step (f := fun _ => some 2) (fun k => by simp only [delta_step.j1]; rw [if_neg (by decide), if_pos h1]) (Ev.now 2), ⟨fun h => by omega, fun h => by omega⟩⟩
      by_cases h2 : s.f1 > 2147483647
      · exact ⟨2, Ev.step (f := fun _ => some 2) (fun k => by simp only [delta_step.j1]; rw [if_neg (by decide), if_neg h1, if_pos h2]) (Ev.now 2), ⟨fun h => by omega, fun h => by omega⟩⟩
      exact ⟨c, Ev.step (fun k => by simp only [delta_step.j1]; rw [if_neg (by decide), if_neg h1, if_neg h2]) (Ev.bind hc (Ev.now c)), hci.trans ⟨fun h => ⟨rfl, by omega, by omega, h⟩, fun h => h.2.2.2⟩⟩
  have j2 : ∀ b : Bool, ∃ r : Int, Ev (fun k => delta_step.j2 k b s.f0 s.f1 s.f2 s.f3) r ∧ (r = 0 ↔ b = false ∧ s.f3 ≠ [] ∧ POK s.f3) := by
    intro b
    cases b with
    | true => exact ⟨4, Ev.step (f := fun _ => some 4) (fun k => by simp only [delta_step.j2]; rw [if_pos trivial]) (Ev.now 4), by simp⟩
    | false =>
      by_cases h1 : s.f3 = []
      · exact ⟨11, Ev.step (f := fun _ => some 11) (fun k => by simp only [delta_step.j2]; rw [if_neg (by decide), if_pos (by rw [h1]; rfl)]) (Ev.now 11), ⟨fun h => by omega, fun h => absurd h1 h.2.1⟩⟩
      · exact ⟨p, Ev.step (fun k => by simp only [delta_step.j2]; rw [if_neg (by decide), if_neg (by have := len_pos.2 h1; omega)]) (Ev.bind hp (Ev.now p)), hpi.trans ⟨fun h => ⟨rfl, h1, h⟩, fun h => h.2.2⟩⟩
  have kc : ∀ (f : Nat → Option Int), (∀ k, f (k + 1) = delta_step.j0 (k + 1) s.f0 true s.f0 s.f1 s.f2 s.f3) → (s.f0 = 0 ∨ s.f0 = 2) → ∃ r : Int, Ev f r ∧ (r = 0 ↔ StepOK s) := by
    intro f hf hk
    by_cases h3 : s.f3 = []
    · by_cases hcut : s.f0 = 2
      · obtain ⟨r, hr, hri⟩ := j1 (decide ((s.f2.length : Int) > 0))
        refine ⟨r, Ev.step (fun k => by rw [hf]; simp only [delta_step.j0]; rw [if_pos trivial, if_neg (by rw [h3]; decide), if_pos hcut]) hr, hri.trans ⟨fun h => ?_, fun h => ?_⟩⟩
        · have h2 : s.f2 = [] := Classical.byContradiction (fun hn => absurd h.1 (by rw [decide_eq_true (len_pos.2 hn)]; decide))
          exact .inr (.inr ⟨hcut, h.2.1, h.2.2.1, h3, h2⟩)
        · rcases h with h | h | h
          · omega
          · omega
          · exact ⟨by rw [h.2.2.2.2]; rfl, h.2.1, h.2.2.1, by rw [h.2.2.2.2]; exact va_nil _⟩
      · obtain ⟨r, hr, hri⟩ := j1 false
        refine ⟨r, Ev.step (fun k => by rw [hf]; simp only [delta_step.j0]; rw [if_pos trivial, if_neg (by rw [h3]; decide), if_neg hcut]) hr, hri.trans ⟨fun h => .inl ⟨by omega, h.2.1, h.2.2.1, h3, h.2.2.2⟩, fun h => ?_⟩⟩
        rcases h with h | h | h
        · exact ⟨rfl, h.2.1, h.2.2.1, h.2.2.2.2⟩
        · omega
        · omega
    · obtain ⟨r, hr, hri⟩ := j1 true
      refine ⟨r, Ev.step (fun k => by rw [hf]; simp only [delta_step.j0]; rw [if_pos trivial, if_pos (len_pos.2 h3)]) hr, hri.trans ⟨(fun h => by cases h.1), fun h => ?_⟩⟩
      rcases h with h | h | h
      · exact absurd h.2.2.2.1 h3
      · omega
      · exact absurd h.2.2.2.1 h3
  by_cases h0 : s.f0 = 0
  · exact kc _ (fun k => by unfold delta_step.f; rw [if_pos h0, h0]; rfl) (.inl h0)
  by_cases h2 : s.f0 = 2
  · exact kc _ (fun k => by unfold delta_step.f; rw [if_neg h0, h2]; rfl) (.inr h2)
  have e : ∀ k, delta_step.f (k + 1) s.f0 s.f1 s.f2 s.f3 = if s.f0 = 1 then (if s.f1 = 0 then delta_step.j2 k (decide ((s.f2.length : Int) > 0)) s.f0 s.f1 s.f2 s.f3 else delta_step.j2 k true s.f0 s.f1 s.f2 s.f3) else some 8 := fun k => by
    unfold delta_step.f
    rw [if_neg h0, show (s.f0 == 2) = false from beq_eq_false_iff_ne.mpr h2]
    simp only [delta_step.j0]
    rw [if_neg (by decide)]
  by_cases h1 : s.f0 = 1
  · by_cases hn : s.f1 = 0
    · obtain ⟨r, hr, hri⟩ := j2 (decide ((s.f2.length : Int) > 0))
      refine ⟨r, Ev.step (fun k => by rw [e, if_pos h1, if_pos hn]) hr, hri.trans ⟨fun h => ?_, fun h => ?_⟩⟩
      · have h2 : s.f2 = [] := Classical.byContradiction (fun hn => absurd h.1 (by rw [decide_eq_true (len_pos.2 hn)]; decide))
        exact .inr (.inl ⟨h1, hn, h2, h.2.1, h.2.2⟩)
      · rcases h with h | h | h
        · omega
        · exact ⟨by rw [h.2.2.1]; rfl, h.2.2.2.1, h.2.2.2.2⟩
        · omega
    · obtain ⟨r, hr, hri⟩ := j2 true
      refine ⟨r, Ev.step (fun k => by rw [e, if_pos h1, if_neg hn]) hr, hri.trans ⟨(fun h => by cases h.1), fun h => ?_⟩⟩
      rcases h with h | h | h <;> omega
  · refine ⟨8, Ev.step (f := fun _ => some 8) (fun k => by rw [e, if_neg h1]) (Ev.now 8), ⟨fun h => by omega, fun h => ?_⟩⟩
    rcases h with h | h | h <;> omega
def Adj (p s : S70) : Prop := ¬ (p.f0 = s.f0 ∧ (s.f0 ≠ 0 ∨ p.f2 = s.f2)) ∧ ¬ (p.f0 = 2 ∧ s.f0 = 1)
def ordOK : Option S70 → List S70 → Prop
  | _, [] => True
  | p, s :: r => (∀ q, p = some q → Adj q s) ∧ ordOK (some s) r
def oldS (s : S70) : Int := if s.f0 = 1 then 0 else s.f1
def newS (s : S70) : Int := if s.f0 = 2 then 0 else if s.f0 = 1 then (s.f3.length : Int) else s.f1
def old : List S70 → Int
  | [] => 0
  | s :: r => oldS s + old r
def new : List S70 → Int
  | [] => 0
  | s :: r => newS s + new r
structure DOK (d : List S70) : Prop where
  ok : ∀ s ∈ d, StepOK s
  ord : ordOK none d
  old : old d ≤ 2147483647
  new : new d ≤ 2147483647
def DSm (d : List S70) : Prop := d.length ≤ 1073741824 ∧ ∀ s ∈ d, SSm s
theorem rd70_mem {l : List S70} {i : Nat} (h : i < l.length) : rd_T70 l (i : Int) ∈ l := by
  simp only [rd_T70, Int.toNat_natCast, List.getD_eq_getElem?_getD, List.getElem?_eq_getElem h, Option.getD_some]
  exact List.getElem_mem h
theorem oldS_nn {s : S70} (h : StepOK s) : 0 ≤ oldS s ∧ oldS s ≤ 2147483647 := by
  unfold oldS
  rcases h with h | h | h <;> split <;> omega
theorem newS_nn {s : S70} (h : StepOK s) (hs : SSm s) : 0 ≤ newS s ∧ newS s ≤ 2147483647 := by
  have := hs.2.1
  unfold newS
  rcases h with h | h | h
  · rw [if_neg (by omega), if_neg (by omega)]; omega
  · rw [if_neg (by omega), if_pos h.1]; omega
  · rw [if_pos h.1]; omega
theorem old_nn : ∀ {d : List S70}, (∀ s ∈ d, StepOK s) → 0 ≤ old d
  | [], _ => Int.le_refl _
  | s :: r, h => by
    have h1 := oldS_nn (h s List.mem_cons_self)
    have h2 := old_nn (d := r) (fun x hx => h x (List.mem_cons_of_mem _ hx))
    rw [old]
    omega
theorem new_nn : ∀ {d : List S70}, (∀ s ∈ d, StepOK s) → (∀ s ∈ d, SSm s) → 0 ≤ new d
  | [], _, _ => Int.le_refl _
  | s :: r, h, hs => by
    have h1 := newS_nn (h s List.mem_cons_self) (hs s List.mem_cons_self)
    have h2 := new_nn (d := r) (fun x hx => h x (List.mem_cons_of_mem _ hx)) (fun x hx => hs x (List.mem_cons_of_mem _ hx))
    rw [new]
    omega
theorem mn_cap {a : Int} : mn a 2147483648 = if a ≤ 2147483648 then a else 2147483648 := by unfold mn; split <;> split <;> omega
def prev (d : List S70) : Nat → Option S70
  | 0 => none
  | i + 1 => some (rd_T70 d (i : Int))
theorem adj_prev {d : List S70} {i : Nat} (h0 : 0 < i) (P : Prop) : (∀ q, prev d i = some q → Adj q (rd_T70 d (i : Int))) ↔ Adj (rd_T70 d ((i : Int) - 1)) (rd_T70 d (i : Int)) := by
  obtain ⟨j, rfl⟩ : ∃ j, i = j + 1 := ⟨i - 1, by omega⟩
  rw [show ((j + 1 : Nat) : Int) - 1 = (j : Int) by omega]
  exact ⟨fun h => h _ rfl, fun h q hq => by cases hq; exact h⟩
def RestOK (p : Option S70) (r : List S70) (b a : Int) : Prop := (∀ s ∈ r, StepOK s) ∧ ordOK p r ∧ b + old r ≤ 2147483647 ∧ a + new r ≤ 2147483647
theorem rest_cons {p : Option S70} {s : S70} {r : List S70} {b a : Int} : RestOK p (s :: r) b a ↔ StepOK s ∧ (∀ q, p = some q → Adj q s) ∧ RestOK (some s) r (b + oldS s) (a + newS s) := by
  unfold RestOK
  rw [ordOK, old, new]
  constructor
  · rintro ⟨h1, ⟨h2, h3⟩, h4, h5⟩
    exact ⟨h1 s List.mem_cons_self, h2, fun x hx => h1 x (List.mem_cons_of_mem _ hx), h3, by omega, by omega⟩
  · rintro ⟨h1, h2, h3, h4, h5, h6⟩
    exact ⟨fun x hx => by rcases List.mem_cons.1 hx with rfl | hx; exact h1; exact h3 x hx, ⟨h2, h4⟩, by omega, by omega⟩
theorem rest_cap {p : Option S70} {r : List S70} {b a b' a' : Int} (hs : ∀ s ∈ r, SSm s) (hb : b = b' ∨ (2147483647 < b ∧ 2147483647 < b')) (ha : a = a' ∨ (2147483647 < a ∧ 2147483647 < a')) : RestOK p r b a ↔ RestOK p r b' a' := by
  unfold RestOK
  constructor
  · rintro ⟨h1, h2, h3, h4⟩
    have := old_nn h1
    have := new_nn h1 hs
    exact ⟨h1, h2, by omega, by omega⟩
  · rintro ⟨h1, h2, h3, h4⟩
    have := old_nn h1
    have := new_nn h1 hs
    exact ⟨h1, h2, by omega, by omega⟩
theorem size_is (s : S70) : delta_size.f s.f0 s.f1 s.f2 s.f3 = some (if s.f0 = 1 then (s.f3.length : Int) else s.f1) := by
  unfold delta_size.f
  split <;> rfl
theorem w64 {i : Int} (h0 : -4611686018427387904 ≤ i) (h : i ≤ 4611686018427387904) : wrap64 i = i := by unfold wrap64; omega
theorem check_l0 (d : List S70) (hs : DSm d) (n : Nat) : ∀ (i : Nat) (b a : Int), i + n = d.length → 0 ≤ b → b ≤ 2147483648 → 0 ≤ a → a ≤ 2147483648 →
    ∃ r : Int, Ev (fun k => delta_Check.l0 k d b a d (d.length : Int) (i : Int)) r ∧ (r = 0 ↔ RestOK (prev d i) (d.drop i) b a) := by
  have hs1 := hs.1
  induction n with
  | zero =>
    intro i b a hi hb0 hb ha0 ha
    have e : ∀ k, delta_Check.l0 (k + 1) d b a d (d.length : Int) (i : Int) = if b > 2147483647 then some 3 else if a > 2147483647 then some 3 else some 0 := fun k => by
      simp only [delta_Check.l0]
      rw [if_neg (by omega)]
    rw [List.drop_eq_nil_of_le (by omega)]
    have hR : RestOK (prev d i) [] b a ↔ b ≤ 2147483647 ∧ a ≤ 2147483647 := ⟨fun h => by have := h.2.2; simp [old, new] at this; exact this, fun h => ⟨(fun s hs => by cases hs), trivial, by simp [old]; exact h.1, by simp [new]; exact h.2⟩⟩
    rw [hR]
    by_cases h1 : b > 2147483647
    · exact ⟨3, Ev.step (f := fun _ => some 3) (fun k => by rw [e, if_pos h1]) (Ev.now 3), ⟨fun h => by omega, fun h => by omega⟩⟩
    by_cases h2 : a > 2147483647
    · exact ⟨3, Ev.step (f := fun _ => some 3) (fun k => by rw [e, if_neg h1, if_pos h2]) (Ev.now 3), ⟨fun h => by omega, fun h => by omega⟩⟩
    exact ⟨0, Ev.step (f := fun _ => some 0) (fun k => by rw [e, if_neg h1, if_neg h2]) (Ev.now 0), ⟨fun h => by omega, fun h => rfl⟩⟩
  | succ n ih =>
    intro i b a hi hb0 hb ha0 ha
    have hlt : i < d.length := by omega
    have hsm := hs.2 _ (rd70_mem hlt)
    rw [drop_T70 d i hlt]
    obtain ⟨r0, hr0, hri0⟩ := step_ev _ hsm
    obtain ⟨s, hsd⟩ : ∃ s, s = rd_T70 d (i : Int) := ⟨_, rfl⟩
    rw [← hsd] at hsm hr0 hri0
    rw [rest_cons, ← hsd]
    have hrs : ∀ x ∈ d.drop (i + 1), SSm x := fun x hx => hs.2 x (List.mem_of_mem_drop hx)
    have j1 : StepOK s → ∃ r : Int, Ev (fun k => delta_Check.j1 k d b a d (d.length : Int) (i : Int) s.f0 s.f1 s.f2 s.f3) r ∧ (r = 0 ↔ RestOK (some s) (d.drop (i + 1)) (b + oldS s) (a + newS s)) := by
      intro hok
      have ho := oldS_nn hok
      have hn := newS_nn hok hsm
      have pe : prev d (i + 1) = some s := by rw [prev, hsd]
      by_cases h1 : s.f0 = 1
      · have h2 : ¬ s.f0 = 2 := by omega
        have e1 : oldS s = 0 := if_pos h1
        have e2 : newS s = (s.f3.length : Int) := by unfold newS; rw [if_neg h2, if_pos h1]
        obtain ⟨r, hr, hri⟩ := ih (i + 1) b (mn (a + (s.f3.length : Int)) 2147483648) (by omega) hb0 hb (by rw [mn_cap]; split <;> omega) (by rw [mn_cap]; split <;> omega)
        refine ⟨r, Ev.step (fun k => by
          simp only [delta_Check.j1]
          rw [if_pos h1, if_neg h2, size_is, Option.bind_some, if_pos h1, wrap_up (by omega) (by omega), w64 (by omega) (by omega)]
          rfl) hr, hri.trans ?_⟩
        rw [pe, e1, e2]
        exact rest_cap hrs (by omega) (by rw [mn_cap]; split <;> omega)
      by_cases h2 : s.f0 = 2
      · have e1 : oldS s = s.f1 := if_neg h1
        have e2 : newS s = 0 := if_pos h2
        obtain ⟨r, hr, hri⟩ := ih (i + 1) (mn (b + s.f1) 2147483648) a (by omega) (by rw [mn_cap]; split <;> omega) (by rw [mn_cap]; split <;> omega) ha0 ha
        refine ⟨r, Ev.step (fun k => by
          simp only [delta_Check.j1]
          rw [if_neg h1, if_pos h2, wrap_up (by omega) (by omega), w64 (by omega) (by omega)]
          rfl) hr, hri.trans ?_⟩
        rw [pe, e1, e2]
        exact rest_cap hrs (by rw [mn_cap]; split <;> omega) (by omega)
      · have e1 : oldS s = s.f1 := if_neg h1
        have e2 : newS s = s.f1 := by unfold newS; rw [if_neg h2, if_neg h1]
        obtain ⟨r, hr, hri⟩ := ih (i + 1) (mn (b + s.f1) 2147483648) (mn (a + s.f1) 2147483648) (by omega) (by rw [mn_cap]; split <;> omega) (by rw [mn_cap]; split <;> omega) (by rw [mn_cap]; split <;> omega) (by rw [mn_cap]; split <;> omega)
        refine ⟨r, Ev.step (fun k => by
          simp only [delta_Check.j1]
          rw [if_neg h1, if_neg h2, size_is, Option.bind_some, if_neg h1, wrap_up (by omega) (by omega), w64 (i := b + s.f1) (by omega) (by omega), w64 (by omega) (by omega)]
          rfl) hr, hri.trans ?_⟩
        rw [pe, e1, e2]
        exact rest_cap hrs (by rw [mn_cap]; split <;> omega) (by rw [mn_cap]; split <;> omega)
    have e0 : ∀ k, delta_Check.l0 (k + 1) d b a d (d.length : Int) (i : Int) = (delta_step.f k s.f0 s.f1 s.f2 s.f3).bind fun t => if t = 0 then (if (i : Int) > 0 then
        (if (rd_T70 d ((i : Int) - 1)).f0 = s.f0 then (if s.f0 = 0 then (attr_Same.f k (rd_T70 d ((i : Int) - 1)).f2 s.f2).bind fun t => (if t = true then some 5 else if (rd_T70 d ((i : Int) - 1)).f0 = 2 then (if s.f0 = 1 then some 5 else delta_Check.j1 k d b a d (d.length : Int) (i : Int) s.f0 s.f1 s.f2 s.f3) else delta_Check.j1 k d b a d (d.length : Int) (i : Int) s.f0 s.f1 s.f2 s.f3) else some 5)
         else (if (rd_T70 d ((i : Int) - 1)).f0 = 2 then (if s.f0 = 1 then some 5 else delta_Check.j1 k d b a d (d.length : Int) (i : Int) s.f0 s.f1 s.f2 s.f3) else delta_Check.j1 k d b a d (d.length : Int) (i : Int) s.f0 s.f1 s.f2 s.f3))
        else delta_Check.j1 k d b a d (d.length : Int) (i : Int) s.f0 s.f1 s.f2 s.f3) else some t := fun k => by
      simp only [delta_Check.l0]
      rw [if_pos (by omega), if_pos (by omega), if_pos (by omega), ← hsd]
      by_cases h0 : (i : Int) > 0
      · rw [wrap_dn (by omega) (by omega), if_pos (show (0 : Int) ≤ (i : Int) - 1 by omega), if_pos (show (i : Int) - 1 < (d.length : Int) by omega)]
      · simp only [if_neg h0]
    have bad : ∀ (c : Int), c ≠ 0 → Ev (fun k => delta_Check.l0 k d b a d (d.length : Int) (i : Int)) c → ¬ (StepOK s ∧ (∀ q, prev d i = some q → Adj q s) ∧ RestOK (some s) (d.drop (i + 1)) (b + oldS s) (a + newS s)) →
        ∃ r : Int, Ev (fun k => delta_Check.l0 k d b a d (d.length : Int) (i : Int)) r ∧ (r = 0 ↔ (StepOK s ∧ (∀ q, prev d i = some q → Adj q s) ∧ RestOK (some s) (d.drop (i + 1)) (b + oldS s) (a + newS s))) := fun c hc he hn => ⟨c, he, ⟨fun h => absurd h hc, fun h => absurd h hn⟩⟩
    by_cases hz : r0 = 0
    rotate_left
    · exact bad r0 hz (Ev.step e0 (Ev.bind hr0 (Ev.congr (fun k => by rw [if_neg hz]) (Ev.now r0)))) (fun h => hz (hri0.2 h.1))
    have hok := hri0.1 hz
    subst hz
    obtain ⟨r, hr, hri⟩ := j1 hok
    by_cases hi0 : i = 0
    · subst hi0
      exact ⟨r, Ev.step e0 (Ev.bind hr0 (Ev.congr (fun k => by rw [if_pos rfl, if_neg (by omega)]) hr)), hri.trans ⟨fun h => ⟨hok, (fun q hq => by cases hq), h⟩, fun h => h.2.2⟩⟩
    have hap := adj_prev (d := d) (i := i) (by omega) True
    rw [← hsd] at hap
    rw [hap] at bad ⊢
    obtain ⟨p, hp⟩ : ∃ p, p = rd_T70 d ((i : Int) - 1) := ⟨_, rfl⟩
    rw [← hp] at hap bad e0 ⊢
    have hpsm : SSm p := by
      have := hs.2 _ (rd70_mem (l := d) (i := i - 1) (by omega))
      rw [show ((i - 1 : Nat) : Int) = (i : Int) - 1 by omega, ← hp] at this
      exact this
    have good : Adj p s → (∀ k, delta_Check.l0 (k + 1) d b a d (d.length : Int) (i : Int) = (delta_step.f k s.f0 s.f1 s.f2 s.f3).bind fun t => if t = 0 then delta_Check.j1 k d b a d (d.length : Int) (i : Int) s.f0 s.f1 s.f2 s.f3 else some t) → ∃ r : Int, Ev (fun k => delta_Check.l0 k d b a d (d.length : Int) (i : Int)) r ∧ (r = 0 ↔ (StepOK s ∧ Adj p s ∧ RestOK (some s) (d.drop (i + 1)) (b + oldS s) (a + newS s))) :=
      fun h1 h2 => ⟨r, Ev.step h2 (Ev.bind hr0 (Ev.congr (fun k => by rw [if_pos rfl]) hr)), hri.trans ⟨fun h => ⟨hok, h1, h⟩, fun h => h.2.2⟩⟩
    have hpos : (i : Int) > 0 := by omega
    by_cases hk : p.f0 = s.f0
    · by_cases h0 : s.f0 = 0
      · obtain ⟨c, hc, hci⟩ := asame_ev p.f2 s.f2 hpsm.1.1
        cases c with
        | true =>
          refine bad 5 (by decide) (Ev.step e0 (Ev.bind hr0 (Ev.congr (fun k => by rw [if_pos rfl, if_pos hpos, if_pos hk, if_pos h0]) (Ev.bind hc (Ev.congr (fun k => by rw [if_pos rfl]) (Ev.now 5)))))) (fun h => h.2.1.1 ⟨hk, .inr (hci.1 rfl)⟩)
        | false =>
          have hne : p.f2 ≠ s.f2 := fun h => by have := hci.2 h; cases this
          refine ⟨r, Ev.step e0 (Ev.bind hr0 (Ev.congr (fun k => by rw [if_pos rfl, if_pos hpos, if_pos hk, if_pos h0]) (Ev.bind hc (Ev.congr (fun k => by rw [if_neg (by decide), if_neg (by omega)]) hr)))), hri.trans ⟨fun h => ⟨hok, ⟨fun h => ?_, fun h => by omega⟩, h⟩, fun h => h.2.2⟩⟩
          rcases h.2 with h | h
          · exact h h0
          · exact hne h
      · refine bad 5 (by decide) (Ev.step e0 (Ev.bind hr0 (Ev.congr (fun k => by rw [if_pos rfl, if_pos hpos, if_pos hk, if_neg h0]) (Ev.now 5)))) (fun h => h.2.1.1 ⟨hk, .inl h0⟩)
    · by_cases hc2 : p.f0 = 2 ∧ s.f0 = 1
      · refine bad 5 (by decide) (Ev.step e0 (Ev.bind hr0 (Ev.congr (fun k => by rw [if_pos rfl, if_pos hpos, if_neg hk, if_pos hc2.1, if_pos hc2.2]) (Ev.now 5)))) (fun h => h.2.1.2 hc2)
      · refine good ⟨fun h => hk h.1, hc2⟩ (fun k => ?_)
        rw [e0]
        congr 1
        funext t
        by_cases ht : t = 0
        · rw [if_pos ht, if_pos ht, if_pos hpos, if_neg hk]
          by_cases h2 : p.f0 = 2
          · rw [if_pos h2, if_neg (fun h => hc2 ⟨h2, h⟩)]
          · rw [if_neg h2]
        · rw [if_neg ht, if_neg ht]
theorem dok_rest (d : List S70) : RestOK none d 0 0 ↔ DOK d := ⟨fun h => ⟨h.1, h.2.1, by have := h.2.2.1; omega, by have := h.2.2.2; omega⟩, fun h => ⟨h.ok, h.ord, by have := h.old; omega, by have := h.new; omega⟩⟩
theorem check_ev (d : List S70) (hs : DSm d) : ∃ r : Int, Ev (fun k => delta_Check.f k d) r ∧ (r = 0 ↔ DOK d) := by
  obtain ⟨r, hr, hri⟩ := check_l0 d hs d.length 0 0 0 (by omega) (by omega) (by omega) (by omega) (by omega)
  exact ⟨r, hr, hri.trans (dok_rest d)⟩
theorem stepok_kind {s : S70} (h : StepOK s) : s.f0 = 0 ∨ s.f0 = 1 ∨ s.f0 = 2 := by rcases h with h | h | h <;> omega
theorem lengths_l0 (d : List S70) (hs : DSm d) (hok : ∀ s ∈ d, StepOK s) (n : Nat) : ∀ (i : Nat) (b a : Int), i + n = d.length → 0 ≤ b → 0 ≤ a → b + old (d.drop i) ≤ 2147483647 → a + new (d.drop i) ≤ 2147483647 →
    Ev (fun k => delta_lengths.l0 k b a d (d.length : Int) (i : Int)) (b + old (d.drop i), a + new (d.drop i)) := by
  have hs1 := hs.1
  induction n with
  | zero =>
    intro i b a hi hb0 ha0 hb ha
    rw [List.drop_eq_nil_of_le (by omega), old, new, Int.add_zero, Int.add_zero]
    refine Ev.step (f := fun _ => some (b, a)) (fun k => ?_) (Ev.now _)
    simp only [delta_lengths.l0]
    rw [if_neg (by omega)]
  | succ n ih =>
    intro i b a hi hb0 ha0 hb ha
    have hlt : i < d.length := by omega
    have hsm := hs.2 _ (rd70_mem hlt)
    have hk := hok _ (rd70_mem hlt)
    rw [drop_T70 d i hlt, old, new] at *
    obtain ⟨s, hsd⟩ : ∃ s, s = rd_T70 d (i : Int) := ⟨_, rfl⟩
    rw [← hsd] at hsm hk hb ha ⊢
    have h1 := oldS_nn hk
    have h2 := newS_nn hk hsm
    have h3 := old_nn (d := d.drop (i + 1)) (fun x hx => hok x (List.mem_of_mem_drop hx))
    have h4 := new_nn (d := d.drop (i + 1)) (fun x hx => hok x (List.mem_of_mem_drop hx)) (fun x hx => hs.2 x (List.mem_of_mem_drop hx))
    have := ih (i + 1) (b + oldS s) (a + newS s) (by omega) (by omega) (by omega) (by omega) (by omega)
    rw [Int.add_assoc, Int.add_assoc] at this
    refine Ev.step (fun k => ?_) this
    simp only [delta_lengths.l0]
    rw [if_pos (by omega), if_pos (by omega), if_pos (by omega), ← hsd, size_is]
    simp only [Option.bind_some]
    have hl : s.f0 = 1 → oldS s = 0 := fun h => if_pos h
    have hl2 : s.f0 ≠ 1 → oldS s = s.f1 := fun h => if_neg h
    have hn2 : s.f0 = 2 → newS s = 0 := fun h => if_pos h
    have hn1 : s.f0 ≠ 2 → s.f0 = 1 → newS s = (s.f3.length : Int) := fun h h' => by unfold newS; rw [if_neg h, if_pos h']
    have hn0 : s.f0 ≠ 2 → s.f0 ≠ 1 → newS s = s.f1 := fun h h' => by unfold newS; rw [if_neg h, if_neg h']
    have wi : wrap64 ((i : Int) + 1) = ((i + 1 : Nat) : Int) := by rw [wrap_up (by omega) (by omega)]; rfl
    rw [wi]
    by_cases g1 : s.f0 = 1
    · have g2 : ¬ s.f0 = 2 := by omega
      rw [if_pos g1, if_neg g2, if_pos g1, ← hn1 g2 g1, w64 (by omega) (by omega), hl g1, Int.add_zero]
    · by_cases g2 : s.f0 = 2
      · rw [if_neg g1, if_pos g2, ← hl2 g1, w64 (by omega) (by omega), hn2 g2, Int.add_zero]
      · rw [if_neg g1, if_neg g2, if_neg g1, w64 (i := b + s.f1) (by rw [← hl2 g1]; omega) (by rw [← hl2 g1]; omega), w64 (i := a + s.f1) (by rw [← hl2 g1]; omega) (by rw [← hn0 g2 g1]; omega), ← hn0 g2 g1, hl2 g1, hn0 g2 g1]
theorem lengths_ev (d : List S70) (hs : DSm d) (h : DOK d) : Ev (fun k => delta_lengths.f k d) (old d, new d) := by
  have := lengths_l0 d hs h.ok d.length 0 0 0 (by omega) (by omega) (by omega) (by have := h.old; simpa using this) (by have := h.new; simpa using this)
  exact Ev.congr (f := fun k => delta_lengths.l0 k 0 0 d (d.length : Int) 0) (fun k => rfl) (by simpa using this)
inductive Un where
  | keep (t : List S38)
  | cut
  | add (x : S84)
def us (s : S70) : List Un := if s.f0 = 0 then List.replicate s.f1.toNat (.keep s.f2) else if s.f0 = 1 then s.f3.map .add else List.replicate s.f1.toNat .cut
def units (d : List S70) : List Un := d.flatMap us
def app (t : List S38) (x : S84) : S84 := ⟨x.f0, x.f1, mrg rawE x.f2 t⟩
def run : List S84 → List Un → List S84 × List S84
  | f, [] => ([], f)
  | f, .add x :: u => (x :: (run f u).1, (run f u).2)
  | [], .keep _ :: u => run [] u
  | x :: f, .keep t :: u => (app t x :: (run f u).1, (run f u).2)
  | [], .cut :: u => run [] u
  | _ :: f, .cut :: u => run f u
theorem units_nil : units [] = [] := rfl
theorem units_cons (s : S70) (d : List S70) : units (s :: d) = us s ++ units d := rfl
theorem units_app (a b : List S70) : units (a ++ b) = units a ++ units b := by simp [units]
theorem run_app (a b : List Un) : ∀ f : List S84, run f (a ++ b) = ((run f a).1 ++ (run (run f a).2 b).1, (run (run f a).2 b).2) := by
  induction a with
  | nil => intro f; rfl
  | cons x a ih =>
    intro f
    cases x with
    | add x => simp only [List.cons_append, run, ih]
    | keep t => cases f <;> simp only [List.cons_append, run, ih]
    | cut => cases f <;> simp only [List.cons_append, run, ih]
theorem run_keeps (t : List S38) : ∀ (n : Nat) (f : List S84), n ≤ f.length → run f (List.replicate n (.keep t)) = ((f.take n).map (app t), f.drop n)
  | 0, f, _ => by simp [run]
  | n + 1, [], h => by simp at h
  | n + 1, x :: f, h => by rw [List.replicate_succ, run, run_keeps t n f (by simpa using h)]; simp
theorem run_cuts : ∀ (n : Nat) (f : List S84), n ≤ f.length → run f (List.replicate n .cut) = ([], f.drop n)
  | 0, f, _ => by simp [run]
  | n + 1, [], h => by simp at h
  | n + 1, x :: f, h => by rw [List.replicate_succ, run, run_cuts n f (by simpa using h)]; simp
theorem run_adds : ∀ (l f : List S84), run f (l.map .add) = (l, f)
  | [], f => rfl
  | x :: l, f => by rw [List.map_cons, run, run_adds l f]
def LB (n : Nat) (f : List S84) : Prop := f.length ≤ n ∧ ∀ x ∈ f, x.f2.length ≤ n
theorem pok_mem {f : List S84} : POK f ↔ ∀ x ∈ f, ElemOK x := by
  constructor
  · intro h x hx
    obtain ⟨i, h0, h1, rfl⟩ := memf_rd hx
    exact h i h0 h1
  · intro h j h0 h1
    exact h _ (rdf_mem h0 h1)
theorem va_small {ch : Bool} {l : List S38} (h : VA ch l) (hl : l.length ≤ 1099511627776) : Small l := by
  refine ⟨hl, fun x hx => ?_⟩
  obtain ⟨h1, h2⟩ := h.1 x hx
  have := h1.2.1
  refine ⟨by omega, ?_⟩
  rcases h2 with h2 | ⟨_, h2⟩
  · have := h2.2.1; omega
  · omega
theorem fsmall {n : Nat} {f : List S84} (h : POK f) (hl : LB n f) (hn : n ≤ 1073741824) : FSmall f := by
  refine ⟨Nat.le_trans hl.1 hn, fun x hx => ?_⟩
  have h1 := hl.2 x hx
  exact ⟨va_small (pok_mem.1 h x hx).2 (by omega), by omega⟩
def DB (n : Nat) (d : List S70) : Prop := d.length ≤ n ∧ ∀ s ∈ d, s.f2.length ≤ n ∧ LB n s.f3
theorem stepok_small {n : Nat} {s : S70} (h : StepOK s) (h1 : s.f2.length ≤ n) (h2 : LB n s.f3) (hn : n ≤ 1073741824) : SSm s := by
  rcases h with h | h | h
  · exact ⟨va_small h.2.2.2.2 (by omega), by rw [h.2.2.2.1]; exact ⟨Nat.zero_le _, fun x hx => by cases hx⟩⟩
  · exact ⟨by rw [h.2.2.1]; exact ⟨Nat.zero_le _, fun x hx => by cases hx⟩, fsmall h.2.2.2.2 h2 hn⟩
  · exact ⟨by rw [h.2.2.2.2]; exact ⟨Nat.zero_le _, fun x hx => by cases hx⟩, by rw [h.2.2.2.1]; exact ⟨Nat.zero_le _, fun x hx => by cases hx⟩⟩
theorem dsm {n : Nat} {d : List S70} (h : ∀ s ∈ d, StepOK s) (hd : DB n d) (hn : n ≤ 1073741824) : DSm d :=
  ⟨Nat.le_trans hd.1 hn, fun s hs => stepok_small (h s hs) (hd.2 s hs).1 (hd.2 s hs).2 hn⟩
theorem changed_l0 (t : List S38) (l : List S84) (ht : t.length ≤ 1073741824) (hl : l.length ≤ 1073741824) (hx : ∀ x ∈ l, x.f2.length ≤ 1073741824) (n : Nat) : ∀ i : Nat, i + n = l.length →
    Ev (fun k => delta_changed.l0 k t ((l.take i).map (app t) ++ List.replicate (l.length - i) z84) l (l.length : Int) (i : Int)) (l.map (app t)) := by
  induction n with
  | zero =>
    intro i hi
    refine Ev.step (f := fun _ => some (l.map (app t))) (fun k => ?_) (Ev.now _)
    simp only [delta_changed.l0]
    rw [if_neg (by omega), show i = l.length by omega]
    simp
  | succ n ih =>
    intro i hi
    have hlt : i < l.length := by omega
    refine Ev.step (fun k => ?_) (ih (i + 1) (by omega))
    have hlen : ((l.take i).map (app t) ++ List.replicate (l.length - i) z84).length = l.length := by simp; omega
    have hxe : rd_T84 l (i : Int) = l[i]'hlt := by simp [rd_T84, List.getD_eq_getElem?_getD, List.getElem?_eq_getElem hlt]
    have h2 := hx _ (rdf_mem (l := l) (i := (i : Int)) (by omega) (by omega))
    simp only [delta_changed.l0]
    rw [if_pos (by omega), if_pos (by omega), if_pos (by omega), raw_f h2 ht, Option.bind_some, if_pos (by rw [hlen]; omega), wrap_up (by omega) (by omega), show ((i : Int) + 1) = ((i + 1 : Nat) : Int) from by omega]
    have hset : ((l.take i).map (app t) ++ List.replicate (l.length - i) z84).set (i : Int).toNat (⟨(rd_T84 l (i : Int)).f0, (rd_T84 l (i : Int)).f1, mrg rawE (rd_T84 l (i : Int)).f2 t⟩ : S84) = (l.take (i + 1)).map (app t) ++ List.replicate (l.length - (i + 1)) z84 := by
      rw [Int.toNat_natCast]
      have hn : l.length - i = (l.length - (i + 1)) + 1 := by omega
      rw [hn, List.replicate_succ, List.set_append_right _ _ (by simp; omega)]
      have e1 : i - ((l.take i).map (app t)).length = 0 := by simp; omega
      have ht : l.take (i + 1) = l.take i ++ [l[i]'hlt] := by
        rw [List.take_add_one, List.getElem?_eq_getElem hlt]
        rfl
      rw [e1, List.set_cons_zero, hxe, ht, List.map_append, List.append_assoc]
      rfl
    rw [hset]
theorem changed_ev (t : List S38) (l : List S84) (ht : t.length ≤ 1073741824) (hl : l.length ≤ 1073741824) (hx : ∀ x ∈ l, x.f2.length ≤ 1073741824) : Ev (fun k => delta_changed.f k l t) (l.map (app t)) := by
  refine Ev.congr (fun k => ?_) (changed_l0 t l ht hl hx l.length 0 (by omega))
  unfold delta_changed.f
  rw [if_pos (by omega), if_pos (by omega)]
  simp
theorem us_keep {s : S70} (h : s.f0 = 0) : us s = List.replicate s.f1.toNat (.keep s.f2) := if_pos h
theorem us_add {s : S70} (h : s.f0 = 1) : us s = s.f3.map .add := by unfold us; rw [if_neg (by omega), if_pos h]
theorem us_cut {s : S70} (h : s.f0 = 2) : us s = List.replicate s.f1.toNat .cut := by unfold us; rw [if_neg (by omega), if_neg (by omega)]
theorem raw_l0 (d : List S70) (hok : ∀ s ∈ d, StepOK s) (hd : DB 1073741824 d) (n : Nat) : ∀ (i : Nat) (f acc : List S84), i + n = d.length → LB 1073741824 f → old (d.drop i) ≤ (f.length : Int) → (acc.length : Int) + new (d.drop i) ≤ 1073741824 →
    Ev (fun k => delta_Raw.l0 k f acc d (d.length : Int) (i : Int)) (acc ++ (run f (units (d.drop i))).1) := by
  have hs := dsm hok hd (Nat.le_refl _)
  have hs1 := hs.1
  induction n with
  | zero =>
    intro i f acc hi hf ho ha
    rw [List.drop_eq_nil_of_le (by omega), units_nil, run, List.append_nil]
    refine Ev.step (f := fun _ => some acc) (fun k => ?_) (Ev.now _)
    simp only [delta_Raw.l0]
    rw [if_neg (by omega)]
  | succ n ih =>
    intro i f acc hi hf ho ha
    have hlt : i < d.length := by omega
    have hsm := hs.2 _ (rd70_mem hlt)
    have hk := hok _ (rd70_mem hlt)
    have hdb := hd.2 _ (rd70_mem hlt)
    rw [drop_T70 d i hlt, old] at ho
    rw [drop_T70 d i hlt, new] at ha
    rw [drop_T70 d i hlt, units_cons, run_app]
    obtain ⟨s, hsd⟩ : ∃ s, s = rd_T70 d (i : Int) := ⟨_, rfl⟩
    rw [← hsd] at hsm hk ho ha hdb ⊢
    have h3 := old_nn (d := d.drop (i + 1)) (fun x hx => hok x (List.mem_of_mem_drop hx))
    have h4 := new_nn (d := d.drop (i + 1)) (fun x hx => hok x (List.mem_of_mem_drop hx)) (fun x hx => hs.2 x (List.mem_of_mem_drop hx))
    have hfl := hf.1
    have e : ∀ k, delta_Raw.l0 (k + 1) f acc d (d.length : Int) (i : Int) = if s.f0 = 0 then (if 0 ≤ s.f1 then (if s.f1 ≤ (f.length : Int) then ((delta_changed.f k (f.take s.f1.toNat) s.f2).bind fun t => if acc.length + t.length < 3518437208883 then delta_Raw.l0 k (f.drop s.f1.toNat) (acc ++ t) d (d.length : Int) ((i + 1 : Nat) : Int) else none) else none) else none)
        else (if s.f0 = 1 then ((flow_Copy.f k s.f3).bind fun t => if acc.length + t.length < 3518437208883 then delta_Raw.l0 k f (acc ++ t) d (d.length : Int) ((i + 1 : Nat) : Int) else none) else (if 0 ≤ s.f1 then (if s.f1 ≤ (f.length : Int) then delta_Raw.l0 k (f.drop s.f1.toNat) acc d (d.length : Int) ((i + 1 : Nat) : Int) else none) else none)) := fun k => by
      simp only [delta_Raw.l0]
      rw [if_pos (by omega), if_pos (by omega), if_pos (by omega), ← hsd, wrap_up (by omega) (by omega)]
      rfl
    rcases hk with hk | hk | hk
    · have eo : oldS s = s.f1 := if_neg (by omega)
      have en : newS s = s.f1 := by unfold newS; rw [if_neg (by omega), if_neg (by omega)]
      rw [us_keep hk.1, run_keeps _ _ _ (by omega)]
      have hc := changed_ev s.f2 (f.take s.f1.toNat) (by have := hdb.1; omega) (by rw [List.length_take]; omega) (fun x hx => by have := hf.2 x (List.mem_of_mem_take hx); omega)
      have hl : ((f.take s.f1.toNat).map (app s.f2)).length = s.f1.toNat := by rw [List.length_map, List.length_take]; omega
      have := ih (i + 1) (f.drop s.f1.toNat) (acc ++ (f.take s.f1.toNat).map (app s.f2)) (by omega) ⟨by rw [List.length_drop]; omega, fun x hx => hf.2 x (List.mem_of_mem_drop hx)⟩ (by rw [List.length_drop]; omega) (by rw [List.length_append, hl]; omega)
      rw [List.append_assoc] at this
      exact Ev.step (fun k => by rw [e, if_pos hk.1, if_pos (by omega), if_pos (by omega)]) (Ev.bind hc (Ev.congr (fun k => by rw [if_pos (by rw [hl]; omega)]) this))
    · have eo : oldS s = 0 := if_pos hk.1
      have en : newS s = (s.f3.length : Int) := by unfold newS; rw [if_neg (by omega), if_pos hk.1]
      rw [us_add hk.1, run_adds]
      have := ih (i + 1) f (acc ++ s.f3) (by omega) hf (by omega) (by rw [List.length_append]; omega)
      rw [List.append_assoc] at this
      exact Ev.step (fun k => by rw [e, if_neg (by omega), if_pos hk.1]) (Ev.bind (copy_ev s.f3 hsm.2) (Ev.congr (fun k => by rw [if_pos (by have := hsm.2.1; omega)]) this))
    · have eo : oldS s = s.f1 := if_neg (by omega)
      have en : newS s = 0 := if_pos hk.1
      rw [us_cut hk.1, run_cuts _ _ (by omega)]
      have := ih (i + 1) (f.drop s.f1.toNat) acc (by omega) ⟨by rw [List.length_drop]; omega, fun x hx => hf.2 x (List.mem_of_mem_drop hx)⟩ (by rw [List.length_drop]; omega) (by omega)
      exact Ev.step (fun k => by rw [e, if_neg (by omega), if_neg (by omega), if_pos (by omega), if_pos (by omega)]) this
theorem raw_ev (d : List S70) (f : List S84) (hok : ∀ s ∈ d, StepOK s) (hd : DB 1073741824 d) (hf : LB 1073741824 f) (ho : old d ≤ (f.length : Int)) (hn : new d ≤ 1073741824) : Ev (fun k => delta_Raw.f k f d) (run f (units d)).1 := by
  have := raw_l0 d hok hd d.length 0 f [] (by omega) hf (by simpa using ho) (by simpa using hn)
  exact Ev.congr (f := fun k => delta_Raw.l0 k f [] d (d.length : Int) 0) (fun k => rfl) (by simpa using this)
theorem fits_ev (f : List S84) (d : List S70) (hf : POK f) (hl : LB 1073741824 f) (h : DOK d) (hd : DB 1073741824 d) (ho : old d = (f.length : Int)) : Ev (fun k => delta_fits.f k f d) 0 := by
  have hs := dsm h.ok hd (Nat.le_refl _)
  obtain ⟨p, hp, hpi⟩ := part_ev f (fsmall hf hl (Nat.le_refl _))
  obtain rfl := hpi.2 hf
  obtain ⟨c, hc, hci⟩ := check_ev d hs
  obtain rfl := hci.2 h
  refine Ev.congr (fun k => by unfold delta_fits.f; rfl) (Ev.bind hp (Ev.congr (fun k => by rw [if_pos rfl]) (Ev.bind hc (Ev.congr (fun k => by rw [if_pos rfl]) (Ev.bind (lengths_ev d hs h) (Ev.congr (fun k => by rw [if_pos ho]) (Ev.now 0)))))))
theorem apply_ev (f : List S84) (d : List S70) (hf : POK f) (hl : LB 1073741824 f) (h : DOK d) (hd : DB 1073741824 d) (ho : old d = (f.length : Int)) (hn : new d ≤ 1073741824) : Ev (fun k => delta_Apply.f k f d) ((run f (units d)).1, 0) :=
  Ev.congr (fun k => by unfold delta_Apply.f; rfl) (Ev.bind (fits_ev f d hf hl h hd ho) (Ev.congr (fun k => by rw [if_pos rfl]) (Ev.bind (raw_ev d f h.ok hd hl (by omega) hn) (Ev.now _))))
def dofB (k : Nat) (o : List S70) (attrs : List S38) : Option Bool :=
  if 0 < o.length then (if (rd_T70 o ((o.length : Int) - 1)).f0 = 0 then chanceryref1_SameAttrs.f k (rd_T70 o ((o.length : Int) - 1)).f2 attrs else some false) else some false
def dofL (k : Nat) : List (List S84) → List Bool → List (List S38) → List S70 → List S84 → Int → Option (List S70)
  | a :: As, c :: Cs, t :: Ts, out, adds, cuts => if 1099511627776 < out.length ∨ 1099511627776 < adds.length + a.length then none else
    if c = true then dofL k As Cs Ts out (adds ++ a) (wrap64 (cuts + 1)) else (dofB k (flushD out (adds ++ a) cuts) t).bind fun b => dofL k As Cs Ts (keepO (flushD out (adds ++ a) cuts) 1 t b) [] 0
  | a :: _, [], _, out, adds, cuts => if 1099511627776 < out.length ∨ 1099511627776 < adds.length + a.length then none else some (flushD out (adds ++ a) cuts)
  | _, _, _, _, _, _ => none
structure DfO (w : World) (ga : Nat) (cs : Array Value) (out : List S70) (v : Value) (wr : World) : Prop where
  bk : wr.heap[ga]? = some (.cells cs 123 (0, 0))
  row : Kd.N k70 70 wr w.heap.size (fun _ => True) v out
  bel : Below w.heap.size w wr
structure DfS (w : World) (ga : Nat) (cs : Array Value) (out : List S70) (adds : List S84) (v u : Value) (wr : World) : Prop where
  bk : wr.heap[ga]? = some (.cells cs 123 (0, 0))
  row : Kd.N k70 70 wr w.heap.size (fun k => some k ≠ u.ownBlock) v out
  radd : Kd.N k84 84 wr w.heap.size (fun k => some k ≠ v.ownBlock) u adds
  bel : Below w.heap.size w wr
section
variable {w wr w1 : World} {ga : Nat} {cs : Array Value} {out out' : List S70} {adds adds' : List S84} {v u v1 u1 : Value}
theorem DfS.weak (h : DfS w ga cs out adds v u wr) : DfO w ga cs out v wr := ⟨h.bk, Kd.N_mono h.row (fun _ _ => trivial), h.bel⟩
theorem DfO.clear (h : DfO w ga cs out v wr) : DfS w ga cs out [] v (.slice none 0 0) wr := ⟨h.bk, Kd.N_mono h.row (fun _ _ => by simp [Value.ownBlock]), Kd.N_nil _ _ _ _ _, h.bel⟩
theorem DfO.app (h : DfO w ga cs out v wr) (hR : Kd.N k70 70 w1 w.heap.size (fun _ => True) v1 out') (hB : Below w.heap.size w w1) (hg : wr.grownBy w1 v.ownBlock) : DfO w ga cs out' v1 w1 := ⟨blk_grown h.bk hg (Kd.N_ne h.row h.bk (by decide)), hR, hB⟩
theorem DfO.drew (h : DfO w ga cs out v wr) : DfO w ga cs out v wr.drew := ⟨blk_drew h.bk, Kd.N_drew h.row, below_drew1 h.bel⟩
theorem DfO.drewN (h : DfO w ga cs out v wr) (n : Nat) : DfO w ga cs out v (wr.drewN n) := ⟨blk_drewN h.bk n, Kd.N_drewN h.row n, pw_below_drewN h.bel n⟩
theorem DfS.appu (h : DfS w ga cs out adds v u wr) (hR : Kd.N k84 84 w1 w.heap.size (fun k => some k ≠ v.ownBlock) u1 adds') (hB : Below w.heap.size w w1) (hg : wr.grownBy w1 u.ownBlock) (hat : u1.ownBlock = u.ownBlock ∨ ∃ b, u1.ownBlock = some b ∧ wr.heap.size ≤ b) : DfS w ga cs out adds' v u1 w1 :=
  ⟨blk_grown h.bk hg (Kd.N_ne h.radd h.bk (by decide)), Kd.N_mono (Kd.N_afterv (ok := fun _ => True) (Kd.N_mono h.row (fun _ hk => ⟨trivial, hk⟩)) hg hat) (fun _ hk => hk.2), hR, hB⟩
theorem DfS.far (h : DfS w ga cs out adds v u wr) (k : Nat) (hk : k < w.heap.size) : some k ≠ v.ownBlock ∧ some k ≠ u.ownBlock :=
  ⟨fun e => by have := Kd.N_base h.row k e.symm; omega, fun e => by have := Kd.N_base h.radd k e.symm; omega⟩
theorem DfS.fresh (h : DfS w ga cs out adds v u wr) (k : Nat) (hk : wr.heap.size ≤ k) : some k ≠ v.ownBlock ∧ some k ≠ u.ownBlock :=
  ⟨fun e => by have := Kd.N_lt h.row k e.symm; omega, fun e => by have := Kd.N_lt h.radd k e.symm; omega⟩
end
theorem drop_L5 (l : List (List S84)) (i : Nat) (h : i < l.length) : l.drop i = rd_L5 l (i : Int) :: l.drop (i + 1) := by
  rw [List.drop_eq_getElem_cons h]
  simp [rd_L5, List.getD_eq_getElem?_getD, List.getElem?_eq_getElem h]
theorem drop_L3 (l : List (List S38)) (i : Nat) (h : i < l.length) : l.drop i = rd_L3 l (i : Int) :: l.drop (i + 1) := by
  rw [List.drop_eq_getElem_cons h]
  simp [rd_L3, List.getD_eq_getElem?_getD, List.getElem?_eq_getElem h]
theorem drop_B (l : List Bool) (i : Nat) (h : i < l.length) : l.drop i = rdOf false l (i : Int) :: l.drop (i + 1) := by
  rw [List.drop_eq_getElem_cons h]
  simp [rdOf, List.getD_eq_getElem?_getD, List.getElem?_eq_getElem h]
set_option maxRecDepth 100000 in
set_option maxHeartbeats 4000000 in
theorem dof_calls (k : Nat) (A0 : Option Addr) (c0 : Nat) (l0 : List (List S84)) (A1 : Option Addr) (c1 : Nat) (l1 : List Bool) (A2 : Option Addr) (c2 : Nat) (l2 : List (List S38)) (r : List S70) (w : World) (h0 : Kd.C (Kd.slice 84 k84) w A0 l0.length l0) (h1 : Kd.C Kd.bool w A1 l1.length l1) (h2 : Kd.C (Kd.slice 38 k38) w A2 l2.length l2)
    (hl0 : l0.length = l1.length + 1) (hl2 : l2.length = l1.length) (hl : l1.length ≤ 1099511627776) (hf : dofL k l0 l1 l2 [] [] 0 = some r) :
    Calls Try.prog 84 #[.agg #[.slice A0 l0.length c0, .slice A1 l1.length c1, .slice A2 l2.length c2]] w fun e w' => ∃ v0_ : Value, e = .returned v0_ ∧ Kd.N k70 70 w' w.heap.size (fun _ => True) v0_ r ∧ Below w.heap.size w w' := by
  have hu70 := Try.underlying70
  have hu123 := Try.underlying123
  have HR0 := Aside0.mk h0
  have HR1 := Aside0.mk h1
  have HR2 := Aside0.mk h2
  have HL0 := Aside0.mk hl0
  have HL2 := Aside0.mk hl2
  have HLN := Aside0.mk hl
  have HZ := Aside0.mk (show dofL k (l0.drop 0) (l1.drop 0) (l2.drop 0) [] [] 0 = some r from hf)
  clear h0 h1 h2 hl0 hl2 hl hf
  go_enter Try.func84, Try.ntmps84
  go_wp2_with ((with_reducible refine gate_dst (N := 1) rfl ?_); refine box_event ?hg (N := 1) ?hd (cs := #[.slice A0 l0.length c0, .slice A1 l1.length c1, .slice A2 l2.length c2]) (t := 123) ?hr ?_; (case hd => rfl); (case hg => rfl); (case hr => first | (go_simp; done) | (go_simp; rfl)); intro ga hg w2 hbox hb; have HJ0 := Aside0.mk (show DfS w ga #[.slice A0 l0.length c0, .slice A1 l1.length c1, .slice A2 l2.length c2] [] [] (.slice none 0 0) (.slice none 0 0) w2 from ⟨hbox, Kd.N_nil _ _ _ _ _, Kd.N_nil _ _ _ _ _, hb⟩); clear hb hbox hg)
  go_loopg [3, 4, 5, 6] (l1.length + 1) (fun m v3 v4 v5 v6 wr => ∃ (i : Nat) (out : List S70) (adds : List S84) (cuts : Int), v5 = .int .i64 cuts ∧ v6 = .int .i64 (i : Int) ∧ Aside0 (m + i = l1.length + 1) ∧ Aside0 (DfS w ga #[.slice A0 l0.length c0, .slice A1 l1.length c1, .slice A2 l2.length c2] out adds v3 v4 wr) ∧ Aside0 (dofL k (l0.drop i) (l1.drop i) (l2.drop i) out adds cuts = some r))
  case atStart => exact ⟨0, [], [], 0, rfl, rfl, ⟨rfl⟩, HJ0, HZ⟩
  case round =>
    clear HJ0 HZ
    obtain ⟨i, out, adds, cuts, rfl, rfl, HI, HD, HL⟩ := hrel
    cases gk with
    | zero =>
      exact absurd HL.out (by rw [List.drop_eq_nil_of_le (by have := HI.out; have := HL0.out; omega)]; simp [dofL])
    | succ gl =>
    have hi : i ≤ l1.length := by have := HI.out; omega
    have hi0 : i < l0.length := by have := HL0.out; omega
    have hL := HL.out
    rw [drop_L5 l0 i hi0] at hL
    have g1 : decide ((i : Int) ≤ (l1.length : Int)) = true := decide_eq_true (by omega)
    have g1' : decide (i ≤ l1.length) = true := decide_eq_true hi
    have q0 : (i : Int) < (l0.length : Int) := by omega
    obtain ⟨ad0, B0, m0, e0, hx0, hm0, hC0⟩ := at_L5 HR0.out (i : Int) (by omega) q0
    cases e0
    replace hx0 := (HD.out.bel.cell (World.block_lt_of_cell? w _ hx0)).trans hx0
    simp only [Int.toNat_natCast] at hx0
    obtain ⟨a, ha⟩ : ∃ a, a = rd_L5 l0 (i : Int) := ⟨_, rfl⟩
    rw [← ha] at hx0 hm0 hC0 hL
    have HFA := Aside0.mk (Kd.F_step (Kd.C_F k84_heap hC0) (fun k hk _ => HD.out.bel.block k hk))
    have c0 : wr.cell? ⟨ga, 0, none⟩ = some (.slice (some ad0) l0.length c0) := (blk_cell HD.out.bk 0).trans rfl
    have c1' : wr.cell? ⟨ga, 1, none⟩ = some (.slice A1 l1.length c1) := (blk_cell HD.out.bk 1).trans rfl
    have hbig : ¬ (1099511627776 < out.length ∨ 1099511627776 < adds.length + a.length) := by
      intro hb
      by_cases hlt : i < l1.length
      · rw [drop_B l1 i hlt, drop_L3 l2 i (by have := HL2.out; omega)] at hL
        simp only [dofL] at hL
        rw [if_pos hb] at hL
        cases hL
      · rw [List.drop_eq_nil_of_le (show l1.length ≤ i by omega), List.drop_eq_nil_of_le (show l2.length ≤ i by have := HL2.out; omega)] at hL
        simp only [dofL] at hL
        rw [if_pos hb] at hL
        cases hL
    have HBG := Aside0.mk hbig
    obtain ⟨A4, n4, hu4⟩ := Kd.N_slice HD.out.radd
    subst hu4
    have HLI := Aside0.mk hL
    clear hbig hL HL ha hm0 hC0 hi0
    go_upto_region 8 with (at_builtin; refine Kd.N_append_rows k84 (w0 := w) w.heap.size rfl (.tmp 15) (.tmp 20) 63 84 (.agg #[(.int .i64 0), (.int .i64 0), (.slice none 0 0)]) 40 rfl Try.underlying63 info84 rfl (by decide) (by decide) _ adds a _ _ _ (fun k => some k ≠ u3.ownBlock) (fun k => k < w.heap.size) rfl rfl HD.out.radd HFA.out (fun k hk => HD.out.far k hk) (fun k hk => (HD.out.fresh k hk).1) HD.out.bel HD.out.bel.size (by have := HBG.out; omega) ?_; intro v1 w3 hR hB hg hat; have HD3 := Aside0.mk (HD.out.appu hR hB hg hat); clear hR hB hg hat)
    obtain ⟨al, hal⟩ : ∃ l : List S84, l = adds ++ a := ⟨_, rfl⟩
    rw [← hal] at HD3
    have HAL := Aside0.mk hal
    clear hal c0 c1' hx0 HFA
    obtain ⟨A5, n5, hv1⟩ := Kd.N_slice HD3.out.radd
    subst hv1
    clear HD
    obtain ⟨A3, n3, hu3⟩ := Kd.N_slice HD3.out.row
    subst hu3
    obtain ⟨cc, hcc⟩ : ∃ c : Bool, c = (decide (i < l1.length) && rdOf false l1 (i : Int)) := ⟨_, rfl⟩
    have HCC := Aside0.mk hcc
    clear hcc
    go_cut [33] (fun v33 wx => v33 = .bool cc ∧ wx = w3)
    case first =>
      have d1 : w3.cell? ⟨ga, 1, none⟩ = some (.slice A1 l1.length c1) := (blk_cell HD3.out.bk 1).trans rfl
      by_cases hlt : i < l1.length
      · have g2 : decide ((i : Int) < (l1.length : Int)) = true := decide_eq_true (by omega)
        have g2' : decide (i < l1.length) = true := decide_eq_true hlt
        have q1 : (i : Int) < (l1.length : Int) := by omega
        obtain ⟨ad1, e1, hx1⟩ := Kd.at_bool HR1.out (i : Int) (by omega) q1
        cases e1
        replace hx1 := (HD3.out.bel.cell (World.block_lt_of_cell? w _ hx1)).trans hx1
        simp only [Int.toNat_natCast] at hx1
        have hcv := HCC.out
        rw [g2', Bool.true_and] at hcv
        have HCV := Aside0.mk hcv
        clear hcv hlt
        go_wp2
        go_meet
        case rel => exact ⟨by rw [HCV.out], rfl⟩
      · have g2 : decide ((i : Int) < (l1.length : Int)) = false := decide_eq_false (by omega)
        have g2' : decide (i < l1.length) = false := decide_eq_false hlt
        have hcv := HCC.out
        rw [g2', Bool.false_and] at hcv
        have HCV := Aside0.mk hcv
        clear hcv hlt
        go_wp2
        go_meet
        case rel => exact ⟨by rw [HCV.out], rfl⟩
    case rest =>
    obtain ⟨rfl, rfl⟩ := hcut
    cases cc with
    | true =>
      have hlt : i < l1.length := by
        have := HCC.out
        simp only [Bool.true_eq, Bool.and_eq_true, decide_eq_true_eq] at this
        exact this.1
      have hL := HLI.out
      have hcv : rdOf false l1 (i : Int) = true := by
        have := HCC.out
        simp only [Bool.true_eq, Bool.and_eq_true, decide_eq_true_eq] at this
        exact this.2
      rw [drop_B l1 i hlt, drop_L3 l2 i (by have := HL2.out; omega)] at hL
      simp only [dofL] at hL
      rw [if_neg HBG.out, if_pos hcv, ← HAL.out] at hL
      have HL := Aside0.mk hL
      have wk : wrap64 ((i : Int) + 1) = (i : Int) + 1 := by have := HLN.out; unfold wrap64; omega
      have HIG := Aside0.mk (show gl + (i + 1) = l1.length + 1 by have := HI.out; omega)
      clear hL hcv hlt hi
      go_wp2
      go_roundg gl
      case measure => omega
      case rel => exact ⟨i + 1, out, al, wrap64 (cuts + 1), rfl, by simp [wk], HIG, HD3, HL⟩
    | false =>
      obtain ⟨ta, hta⟩ : ∃ t : Bool, decide (0 < (al.length : Int)) = t := ⟨_, rfl⟩
      have hta2 : decide (0 < al.length) = ta := by rw [← hta]; exact decide_eq_decide.mpr (by omega)
      have HOL := Aside0.mk (show out.length ≤ 1099511627776 by have := HBG.out; omega)
      go_upto_if 38 with (fail)
      go_cut [3] (fun v3 wx => Aside0 (DfO w ga #[.slice (some ad0) l0.length c0, .slice A1 l1.length c1, .slice A2 l2.length c2] (addD out al) v3 wx))
      case first =>
        cases ta with
        | false =>
          have hadd := of_decide_eq_false hta2
          have e : addD out al = out := if_neg hadd
          go_wp2
          go_meet
          case rel => exact ⟨by rw [e]; exact HD3.out.weak⟩
        | true =>
          have hadd := of_decide_eq_true hta2
          have e : addD out al = out ++ [⟨1, 0, [], al⟩] := if_pos hadd
          have HE := Aside0.mk e
          clear hadd e
          go_wp2_with (at_builtin; refine Kd.N_append k70 (w0 := w) w.heap.size rfl (.tmp 39) (.tmp 42) 64 70 (.agg #[.int .i64 0, .int .i64 0, .slice none 0 0, .slice none 0 0]) 64 rfl Try.underlying64 info70 rfl (by decide) (by decide) _ out ⟨1, 0, [], al⟩ _ (fun _ => True) (fun k => some k ≠ (Value.slice A3 out.length n3).ownBlock) rfl (by simp [Act.eval]) (k70_mkF _ _ ⟨1, 0, [], al⟩ (Nat.le_refl 0) (Kd.F_nil _ _ _) (Kd.N_reads' HD3.out.radd).2.1 (Kd.N_F HD3.out.radd)) (fun _ hk => ⟨trivial, hk⟩) (fun _ _ => trivial) HD3.out.weak.row HD3.out.bel HD3.out.bel.size (by have := HOL.out; omega) ?_; intro v1 w4 hR hB hg hat; have HW := Aside0.mk (HD3.out.weak.app hR hB hg); clear hR hB hg hat)
          go_meet
          case rel => exact ⟨by rw [HE.out]; exact HW.out⟩
      case rest =>
      clear hta hta2
      obtain ⟨l2', hl2'⟩ : ∃ l : List S70, l = addD out al := ⟨_, rfl⟩
      have HLEN := Aside0.mk (show l2'.length ≤ out.length + 1 by rw [hl2']; unfold addD; split <;> simp)
      rw [← hl2'] at hcut
      have HL2' := Aside0.mk hl2'
      clear hl2'
      obtain ⟨A6, n6, hv6⟩ := Kd.N_slice hcut.out.row
      subst hv6
      have HO2 := hcut
      clear hcut HD3
      obtain ⟨tb, htb⟩ : ∃ t : Bool, decide (0 < cuts) = t := ⟨_, rfl⟩
      go_upto_if 45 with (fail)
      go_cut [3] (fun v3 wx => Aside0 (DfO w ga #[.slice (some ad0) l0.length c0, .slice A1 l1.length c1, .slice A2 l2.length c2] (cutD l2' cuts) v3 wx))
      case first =>
        cases tb with
        | false =>
          have hadd := of_decide_eq_false htb
          have e : cutD l2' cuts = l2' := if_neg hadd
          go_wp2
          go_meet
          case rel => exact ⟨by rw [e]; exact HO2.out⟩
        | true =>
          have hadd := of_decide_eq_true htb
          have e : cutD l2' cuts = l2' ++ [⟨2, cuts, [], []⟩] := if_pos hadd
          have HE := Aside0.mk e
          clear hadd e
          go_wp2_with (at_builtin; refine Kd.N_append k70 (w0 := w) w.heap.size rfl (.tmp 46) (.tmp 49) 64 70 (.agg #[.int .i64 0, .int .i64 0, .slice none 0 0, .slice none 0 0]) 64 rfl Try.underlying64 info70 rfl (by decide) (by decide) _ l2' ⟨2, cuts, [], []⟩ _ (fun _ => True) (fun _ => False) rfl (by simp [Act.eval]) (k70_mkF _ _ ⟨2, cuts, [], []⟩ (Nat.le_refl 0) (Kd.F_nil _ _ _) (Nat.le_refl 0) (Kd.F_nil _ _ _)) (fun _ hk => hk.elim) (fun _ _ => trivial) HO2.out.row HO2.out.bel HO2.out.bel.size (by have := HOL.out; have := HLEN.out; omega) ?_; intro v1 w4 hR hB hg hat; have HW := Aside0.mk (HO2.out.app hR hB hg); clear hR hB hg hat)
          go_meet
          case rel => exact ⟨by rw [HE.out]; exact HW.out⟩
      case rest =>
      clear htb
      obtain ⟨o, ho⟩ : ∃ l : List S70, l = cutD l2' cuts := ⟨_, rfl⟩
      have HOO := Aside0.mk (show flushD out al cuts = o by rw [ho, HL2'.out]; rfl)
      have HLO := Aside0.mk (show o.length ≤ 1099511627778 by have h1 := HOL.out; have h2 := HLEN.out; rw [ho]; unfold cutD; split <;> simp <;> omega)
      rw [← ho] at hcut
      clear ho HO2 HLEN HL2'
      obtain ⟨A7, n7, hv7⟩ := Kd.N_slice hcut.out.row
      subst hv7
      have HO := hcut
      clear hcut
      have e1 : wc.cell? ⟨ga, 1, none⟩ = some (.slice A1 l1.length c1) := (blk_cell HO.out.bk 1).trans rfl
      by_cases hlt : i < l1.length
      rotate_left
      · have hie : i = l1.length := by omega
        have g3 : ((i : Int) == (l1.length : Int)) = true := beq_iff_eq.mpr (by omega)
        have g3' : (i == l1.length) = true := beq_iff_eq.mpr hie
        have hL := HLI.out
        rw [List.drop_eq_nil_of_le (show l1.length ≤ i by omega), List.drop_eq_nil_of_le (show l2.length ≤ i by have := HL2.out; omega)] at hL
        simp only [dofL] at hL
        rw [if_neg HBG.out, ← HAL.out, HOO.out] at hL
        injection hL with hL
        have HLR := Aside0.mk hL
        clear hL hlt hi hie
        go_wp2
        first | go_ret | go_ret2
        exact ⟨_, rfl, by rw [← HLR.out]; exact HO.out.row, HO.out.bel⟩
      have g3 : ((i : Int) == (l1.length : Int)) = false := beq_eq_false_iff_ne.mpr (by omega)
      have g3' : (i == l1.length) = false := beq_eq_false_iff_ne.mpr (by omega)
      have hL := HLI.out
      have hcv : rdOf false l1 (i : Int) = false := by
        have h1 := HCC.out
        rw [decide_eq_true hlt, Bool.true_and] at h1
        exact h1.symm
      rw [drop_B l1 i hlt, drop_L3 l2 i (by have := HL2.out; omega)] at hL
      simp only [dofL] at hL
      rw [if_neg HBG.out, hcv, if_neg (by decide), ← HAL.out, HOO.out] at hL
      obtain ⟨b, hb, hL⟩ := Option.bind_eq_some_iff.1 hL
      have q2 : (i : Int) < (l2.length : Int) := by have := HL2.out; omega
      obtain ⟨ad2, B2, m2, e2, hx2, hm2, hC2⟩ := at_L3 HR2.out (i : Int) (by omega) q2
      cases e2
      have HX2 := Aside0.mk hx2
      obtain ⟨t, ht⟩ : ∃ a, a = rd_L3 l2 (i : Int) := ⟨_, rfl⟩
      rw [← ht] at HX2 hm2 hC2 hL hb
      have HC2 := Aside0.mk hC2
      have HM2 := Aside0.mk hm2
      have HB := Aside0.mk hb
      have HL := Aside0.mk hL
      have HIG := Aside0.mk (show gl + (i + 1) = l1.length + 1 by have := HI.out; omega)
      have wk : wrap64 ((i : Int) + 1) = (i : Int) + 1 := by have := HLN.out; unfold wrap64; omega
      have hlen := HLO.out
      clear hx2 ht hm2 hC2 hb hL hcv hlt hi HLI HCC
      go_upto_region 17 with (fail)
      go_cut [81] (fun v81 wx => v81 = .bool b ∧ Aside0 (DfO w ga #[.slice (some ad0) l0.length c0, .slice A1 l1.length c1, .slice (some ad2) l2.length c2] o (.slice A7 o.length n7) wx))
      case first =>
        have hb := HB.out
        by_cases hz : 0 < o.length
        · have p0 : 0 ≤ (o.length : Int) - 1 := by omega
          have p0b : decide (1 ≤ (o.length : Int)) = true := decide_eq_true (by omega)
          have p0c : ((1 : Int) ≤ (o.length : Int)) = True := eq_true (by omega)
          have r0 : (o.length : Int) - 1 < (o.length : Int) := by omega
          obtain ⟨go, co, eo, gb, gl2, cells, hblk⟩ := Kd.N_form HO.out.row hz
          injection eo with ea en ec
          subst ea
          subst ec
          clear en
          obtain ⟨ce, hcl, hM, hcc, hfr⟩ := Kd.N_elem HO.out.row z70 ((o.length : Int) - 1) p0 r0
          obtain ⟨D2, k2, D3, k3, rfl, hm2, hF2, hm3, hF3⟩ := k70_openF hM
          have hix : ∀ j, (((o.length : Int) - 1).toNat * k70.sz + j) = (o.length - 1) * 4 + j := fun j => by show (((o.length : Int) - 1).toNat * 4 + j) = _; omega
          have hy0 : wc.cell? ⟨go, (o.length - 1) * 4, none⟩ = some (.int .i64 (rd_T70 o ((o.length : Int) - 1)).f0) := by
            have := hcc 0 _ rfl
            rwa [hix] at this
          have hy2 : wc.cell? ⟨go, (o.length - 1) * 4 + 2, none⟩ = some (.slice D2 (rd_T70 o ((o.length : Int) - 1)).f2.length k2) := by
            have := hcc 2 _ rfl
            rwa [hix] at this
          rw [dofB, if_pos hz] at hb
          by_cases hkp : (rd_T70 o ((o.length : Int) - 1)).f0 = 0
          · rw [if_pos hkp] at hb
            have c4 : ((rd_T70 o ((o.length : Int) - 1)).f0 == 0) = true := beq_iff_eq.mpr hkp
            have HB' := Aside0.mk hb
            have HK2 := Aside0.mk (show (rd_T70 o ((o.length : Int) - 1)).f2.length ≤ k2 from hm2)
            have HF2 := Aside0.mk (show Kd.C k38 wc D2 (rd_T70 o ((o.length : Int) - 1)).f2.length (rd_T70 o ((o.length : Int) - 1)).f2 from Kd.F_now hF2)
            have HX2' := Aside0.mk ((HO.out.bel.cell (World.block_lt_of_cell? w _ HX2.out)).trans HX2.out)
            have hx2 := HX2'.out
            simp only [Int.toNat_natCast] at hx2
            clear hb hm2 hF2 hm3 hF3 hM hcc hcl gb hkp gl2 hblk hfr hix
            refine start_ (n := 23) (S := fun w' => w'.cell? ⟨go, (o.length - 1) * 4, none⟩ = some (.int .i64 (rd_T70 o ((o.length : Int) - 1)).f0) ∧ w'.cell? ⟨go, (o.length - 1) * 4 + 2, none⟩ = some (.slice D2 (rd_T70 o ((o.length : Int) - 1)).f2.length k2) ∧ w'.cell? ⟨ga, 2, none⟩ = some (.slice (some ad2) l2.length c2) ∧ w'.cell? (ad2.add i) = some (.slice B2 t.length m2)) (ds := [21]) #[false, false, false, false, false, false, false, false, false, false, false, false, false, false, false, false, false, false, false, false, false, false, false] (by kernel_rfl) rfl rfl ⟨hy0, hy2, ((blk_cell HO.out.bk 2).trans rfl), hx2⟩ (fun hHeld => ?_)
            refine pure_ (i := 0) (N := some 59) (v := ?_) (a' := ?_) (bm 1 23) rfl rfl (by kernel_rfl) (fun _ _ _ h => h) (Or.inl ⟨by rfl, ?_⟩) ?_ ?_
            rotate_left
            · intro w'
              go_simp
              with_reducible rfl
            rotate_left
            · simp only [Act.put, List.setIfInBounds_toArray, List.set_cons_zero, List.set_cons_succ, i64_w, i32_w]
              rfl
            refine pure_ (i := 1) (N := some 60) (v := ?_) (a' := ?_) (bm 3 23) rfl rfl (by kernel_rfl) (fun _ _ _ h => h) (Or.inl ⟨by rfl, ?_⟩) ?_ ?_
            rotate_left
            · intro w'
              go_simp
              with_reducible rfl
            rotate_left
            · simp only [Act.put, List.setIfInBounds_toArray, List.set_cons_zero, List.set_cons_succ, i64_w, i32_w]
              rfl
            refine pure_ (i := 2) (N := some 61) (v := ?_) (a' := ?_) (bm 7 23) rfl rfl (by kernel_rfl) (fun _ _ _ h => h) (Or.inl ⟨by rfl, ?_⟩) ?_ ?_
            rotate_left
            · intro w'
              go_simp
              with_reducible rfl
            rotate_left
            · simp only [Act.put, List.setIfInBounds_toArray, List.set_cons_zero, List.set_cons_succ, i64_w, i32_w]
              rfl
            refine pure_ (i := 3) (N := some 62) (v := ?_) (a' := ?_) (bm 15 23) rfl rfl (by kernel_rfl) (fun _ _ _ h => h) (Or.inl ⟨by rfl, ?_⟩) ?_ ?_
            rotate_left
            · intro w'
              go_simp
              with_reducible rfl
            rotate_left
            · simp only [Act.put, List.setIfInBounds_toArray, List.set_cons_zero, List.set_cons_succ, i64_w, i32_w]
              rfl
            refine pure_ (i := 4) (N := some 63) (v := ?_) (a' := ?_) (bm 31 23) rfl rfl (by kernel_rfl) (fun _ _ _ h => h) (Or.inl ⟨by rfl, ?_⟩) ?_ ?_
            rotate_left
            · intro w'
              go_simp
              with_reducible rfl
            rotate_left
            · simp only [Act.put, List.setIfInBounds_toArray, List.set_cons_zero, List.set_cons_succ, i64_w, i32_w]
              rfl
            refine pure_ (i := 5) (N := some 64) (v := ?_) (a' := ?_) (bm 63 23) rfl rfl (by kernel_rfl) (fun _ _ _ h => h) (Or.inl ⟨by rfl, ?_⟩) ?_ ?_
            rotate_left
            · intro w'
              go_simp
              with_reducible rfl
            rotate_left
            · simp only [Act.put, List.setIfInBounds_toArray, List.set_cons_zero, List.set_cons_succ, i64_w, i32_w]
              rfl
            refine pure_ (i := 6) (N := some 65) (v := ?_) (a' := ?_) (bm 127 23) rfl rfl (by kernel_rfl) (fun _ _ _ h => h) (Or.inl ⟨by rfl, ?_⟩) ?_ ?_
            rotate_left
            · intro w'
              go_simp
              with_reducible rfl
            rotate_left
            · simp only [Act.put, List.setIfInBounds_toArray, List.set_cons_zero, List.set_cons_succ, i64_w, i32_w]
              rfl
            refine take_ (i := 7) (N := some 66) (v := ?_) (a' := ?_) (bm 255 23) rfl rfl (by kernel_rfl) (fun _ _ _ h => h) (Or.inl ⟨by rfl, ?_⟩) hHeld ?_ ?_
            rotate_left
            · rintro w' ⟨s0, s1, s2, s3⟩
              go_simp
              with_reducible rfl
            rotate_left
            · simp only [Act.put, List.setIfInBounds_toArray, List.set_cons_zero, List.set_cons_succ, i64_w, i32_w]
              rfl
            refine pure_ (i := 8) (N := some 67) (v := ?_) (a' := ?_) (bm 511 23) rfl rfl (by kernel_rfl) (fun _ _ _ h => h) (Or.inl ⟨by rfl, ?_⟩) ?_ ?_
            rotate_left
            · intro w'
              go_simp
              with_reducible rfl
            rotate_left
            · simp only [Act.put, List.setIfInBounds_toArray, List.set_cons_zero, List.set_cons_succ, i64_w, i32_w]
              rfl
            refine pure_ (i := 9) (N := some 68) (v := ?_) (a' := ?_) (bm 1023 23) rfl rfl (by kernel_rfl) (fun _ _ _ h => h) (Or.inl ⟨by rfl, ?_⟩) ?_ ?_
            rotate_left
            · intro w'
              go_simp
              with_reducible rfl
            rotate_left
            · simp only [Act.put, List.setIfInBounds_toArray, List.set_cons_zero, List.set_cons_succ, i64_w, i32_w]
              rfl
            refine pure_ (i := 10) (N := some 69) (v := ?_) (a' := ?_) (bm 2047 23) rfl rfl (by kernel_rfl) (fun _ _ _ h => h) (Or.inl ⟨by rfl, ?_⟩) ?_ ?_
            rotate_left
            · intro w'
              go_simp
              with_reducible rfl
            rotate_left
            · simp only [Act.put, List.setIfInBounds_toArray, List.set_cons_zero, List.set_cons_succ, i64_w, i32_w]
              rfl
            refine pure_ (i := 11) (N := some 70) (v := ?_) (a' := ?_) (bm 4095 23) rfl rfl (by kernel_rfl) (fun _ _ _ h => h) (Or.inl ⟨by rfl, ?_⟩) ?_ ?_
            rotate_left
            · intro w'
              go_simp
              with_reducible rfl
            rotate_left
            · simp only [Act.put, List.setIfInBounds_toArray, List.set_cons_zero, List.set_cons_succ, i64_w, i32_w]
              rfl
            refine pure_ (i := 12) (N := some 71) (v := ?_) (a' := ?_) (bm 8191 23) rfl rfl (by kernel_rfl) (fun _ _ _ h => h) (Or.inl ⟨by rfl, ?_⟩) ?_ ?_
            rotate_left
            · intro w'
              go_simp
              with_reducible rfl
            rotate_left
            · simp only [Act.put, List.setIfInBounds_toArray, List.set_cons_zero, List.set_cons_succ, i64_w, i32_w]
              rfl
            refine pure_ (i := 13) (N := some 72) (v := ?_) (a' := ?_) (bm 16383 23) rfl rfl (by kernel_rfl) (fun _ _ _ h => h) (Or.inl ⟨by rfl, ?_⟩) ?_ ?_
            rotate_left
            · intro w'
              go_simp
              with_reducible rfl
            rotate_left
            · simp only [Act.put, List.setIfInBounds_toArray, List.set_cons_zero, List.set_cons_succ, i64_w, i32_w]
              rfl
            refine pure_ (i := 14) (N := some 73) (v := ?_) (a' := ?_) (bm 32767 23) rfl rfl (by kernel_rfl) (fun _ _ _ h => h) (Or.inl ⟨by rfl, ?_⟩) ?_ ?_
            rotate_left
            · intro w'
              go_simp
              with_reducible rfl
            rotate_left
            · simp only [Act.put, List.setIfInBounds_toArray, List.set_cons_zero, List.set_cons_succ, i64_w, i32_w]
              rfl
            refine pure_ (i := 16) (N := some 75) (v := ?_) (a' := ?_) (bm 98303 23) rfl rfl (by kernel_rfl) (fun _ _ _ h => h) (Or.inl ⟨by rfl, ?_⟩) ?_ ?_
            rotate_left
            · intro w'
              go_simp
              with_reducible rfl
            rotate_left
            · simp only [Act.put, List.setIfInBounds_toArray, List.set_cons_zero, List.set_cons_succ, i64_w, i32_w]
              rfl
            refine pure_ (i := 18) (N := some 77) (v := ?_) (a' := ?_) (bm 360447 23) rfl rfl (by kernel_rfl) (fun _ _ _ h => h) (Or.inl ⟨by rfl, ?_⟩) ?_ ?_
            rotate_left
            · intro w'
              go_simp
              with_reducible rfl
            rotate_left
            · simp only [Act.put, List.setIfInBounds_toArray, List.set_cons_zero, List.set_cons_succ, i64_w, i32_w]
              rfl
            refine take_ (i := 15) (N := some 74) (v := ?_) (a' := ?_) (bm 393215 23) rfl rfl (by kernel_rfl) (fun _ _ _ h => h) (Or.inl ⟨by rfl, ?_⟩) hHeld ?_ ?_
            rotate_left
            · rintro w' ⟨s0, s1, s2, s3⟩
              go_simp
              with_reducible rfl
            rotate_left
            · simp only [Act.put, List.setIfInBounds_toArray, List.set_cons_zero, List.set_cons_succ, i64_w, i32_w]
              rfl
            refine take_ (i := 17) (N := some 76) (v := ?_) (a' := ?_) (bm 524287 23) rfl rfl (by kernel_rfl) (fun _ _ _ h => h) (Or.inl ⟨by rfl, ?_⟩) hHeld ?_ ?_
            rotate_left
            · rintro w' ⟨s0, s1, s2, s3⟩
              go_simp
              with_reducible rfl
            rotate_left
            · simp only [Act.put, List.setIfInBounds_toArray, List.set_cons_zero, List.set_cons_succ, i64_w, i32_w]
              rfl
            refine pure_ (i := 19) (N := some 78) (v := ?_) (a' := ?_) (bm 1048575 23) rfl rfl (by kernel_rfl) (fun _ _ _ h => h) (Or.inl ⟨by rfl, ?_⟩) ?_ ?_
            rotate_left
            · intro w'
              go_simp
              with_reducible rfl
            rotate_left
            · simp only [Act.put, List.setIfInBounds_toArray, List.set_cons_zero, List.set_cons_succ, i64_w, i32_w]
              rfl
            refine take_ (i := 20) (N := some 79) (v := ?_) (a' := ?_) (bm 2097151 23) rfl rfl (by kernel_rfl) (fun _ _ _ h => h) (Or.inl ⟨by rfl, ?_⟩) hHeld ?_ ?_
            rotate_left
            · rintro w' ⟨s0, s1, s2, s3⟩
              go_simp
              with_reducible rfl
            rotate_left
            · simp only [Act.put, List.setIfInBounds_toArray, List.set_cons_zero, List.set_cons_succ, i64_w, i32_w]
              rfl
            refine last_ (i := 21) (N := some 80) (bm 4194303 23) rfl rfl (by kernel_rfl) (by decide) (fun K hK => ?_)
            refine goes_ Try.func25 (by kernel_rfl) rfl #[.slice D2 (rd_T70 o ((o.length : Int) - 1)).f2.length k2, .slice B2 t.length m2] (by rfl) rfl rfl (by simp only [List.map_toArray, List.map_cons, List.map_nil]; rfl) ?_
            with_reducible refine (chanceryref1_SameAttrs.calls k D2 k2 (rd_T70 o ((o.length : Int) - 1)).f2 B2 m2 t b _ (Kd.C_drew HF2.out) HK2.out (Kd.C_below HC2.out HO.out.drew.bel) HM2.out HB'.out).mono ?_
            rintro e w9 ⟨rfl, hb9⟩
            refine ⟨_, rfl, ?_⟩
            obtain ⟨nd, rfl⟩ := hb9
            have HO9 := Aside0.mk (HO.out.drew.drewN nd)
            refine hK.out _ _ ?_
            clear hK K
            refine norm_ (a' := ?_) ?_ ?_
            rotate_left
            · show Act.put _ (some 80) _ = _
              simp only [Act.put, List.setIfInBounds_toArray, List.set_cons_zero, List.set_cons_succ, i64_w, i32_w]
              rfl
            refine pure_ (i := 22) (N := some 81) (v := ?_) (a' := ?_) (bm 8388607 23) rfl rfl (by kernel_rfl) (fun _ _ _ h => h) (Or.inl ⟨by rfl, ?_⟩) ?_ ?_
            rotate_left
            · intro w'
              go_simp
              with_reducible rfl
            rotate_left
            · simp only [Act.put, List.setIfInBounds_toArray, List.set_cons_zero, List.set_cons_succ, i64_w, i32_w]
              rfl
            refine done_ (by kernel_rfl) ?_
            go_wp2
            go_meet
            case rel => exact ⟨by cases b <;> rfl, HO9⟩
          · rw [if_neg hkp] at hb
            obtain rfl := Option.some.inj hb
            have c4 : ((rd_T70 o ((o.length : Int) - 1)).f0 == 0) = false := beq_eq_false_iff_ne.mpr hkp
            clear hb hm2 hF2 hm3 hF3 hM hcc hcl gb hkp gl2 hblk hfr hix
            refine start_ (n := 23) (S := fun w' => w'.cell? ⟨go, (o.length - 1) * 4, none⟩ = some (.int .i64 (rd_T70 o ((o.length : Int) - 1)).f0)) (ds := []) #[false, false, false, false, false, false, false, false, false, false, false, false, false, false, false, false, false, false, false, false, false, false, false] (by kernel_rfl) rfl rfl (hy0) (fun hHeld => ?_)
            refine pure_ (i := 0) (N := some 59) (v := ?_) (a' := ?_) (bm 1 23) rfl rfl (by kernel_rfl) (fun _ _ _ h => h) (Or.inl ⟨by rfl, ?_⟩) ?_ ?_
            rotate_left
            · intro w'
              go_simp
              with_reducible rfl
            rotate_left
            · simp only [Act.put, List.setIfInBounds_toArray, List.set_cons_zero, List.set_cons_succ, i64_w, i32_w]
              rfl
            refine pure_ (i := 1) (N := some 60) (v := ?_) (a' := ?_) (bm 3 23) rfl rfl (by kernel_rfl) (fun _ _ _ h => h) (Or.inl ⟨by rfl, ?_⟩) ?_ ?_
            rotate_left
            · intro w'
              go_simp
              with_reducible rfl
            rotate_left
            · simp only [Act.put, List.setIfInBounds_toArray, List.set_cons_zero, List.set_cons_succ, i64_w, i32_w]
              rfl
            refine pure_ (i := 2) (N := some 61) (v := ?_) (a' := ?_) (bm 7 23) rfl rfl (by kernel_rfl) (fun _ _ _ h => h) (Or.inl ⟨by rfl, ?_⟩) ?_ ?_
            rotate_left
            · intro w'
              go_simp
              with_reducible rfl
            rotate_left
            · simp only [Act.put, List.setIfInBounds_toArray, List.set_cons_zero, List.set_cons_succ, i64_w, i32_w]
              rfl
            refine pure_ (i := 3) (N := some 62) (v := ?_) (a' := ?_) (bm 15 23) rfl rfl (by kernel_rfl) (fun _ _ _ h => h) (Or.inl ⟨by rfl, ?_⟩) ?_ ?_
            rotate_left
            · intro w'
              go_simp
              with_reducible rfl
            rotate_left
            · simp only [Act.put, List.setIfInBounds_toArray, List.set_cons_zero, List.set_cons_succ, i64_w, i32_w]
              rfl
            refine pure_ (i := 4) (N := some 63) (v := ?_) (a' := ?_) (bm 31 23) rfl rfl (by kernel_rfl) (fun _ _ _ h => h) (Or.inl ⟨by rfl, ?_⟩) ?_ ?_
            rotate_left
            · intro w'
              go_simp
              with_reducible rfl
            rotate_left
            · simp only [Act.put, List.setIfInBounds_toArray, List.set_cons_zero, List.set_cons_succ, i64_w, i32_w]
              rfl
            refine pure_ (i := 5) (N := some 64) (v := ?_) (a' := ?_) (bm 63 23) rfl rfl (by kernel_rfl) (fun _ _ _ h => h) (Or.inl ⟨by rfl, ?_⟩) ?_ ?_
            rotate_left
            · intro w'
              go_simp
              with_reducible rfl
            rotate_left
            · simp only [Act.put, List.setIfInBounds_toArray, List.set_cons_zero, List.set_cons_succ, i64_w, i32_w]
              rfl
            refine pure_ (i := 6) (N := some 65) (v := ?_) (a' := ?_) (bm 127 23) rfl rfl (by kernel_rfl) (fun _ _ _ h => h) (Or.inl ⟨by rfl, ?_⟩) ?_ ?_
            rotate_left
            · intro w'
              go_simp
              with_reducible rfl
            rotate_left
            · simp only [Act.put, List.setIfInBounds_toArray, List.set_cons_zero, List.set_cons_succ, i64_w, i32_w]
              rfl
            refine take_ (i := 7) (N := some 66) (v := ?_) (a' := ?_) (bm 255 23) rfl rfl (by kernel_rfl) (fun _ _ _ h => h) (Or.inl ⟨by rfl, ?_⟩) hHeld ?_ ?_
            rotate_left
            · intro w' s0
              go_simp
              with_reducible rfl
            rotate_left
            · simp only [Act.put, List.setIfInBounds_toArray, List.set_cons_zero, List.set_cons_succ, i64_w, i32_w]
              rfl
            refine pure_ (i := 8) (N := some 67) (v := ?_) (a' := ?_) (bm 511 23) rfl rfl (by kernel_rfl) (fun _ _ _ h => h) (Or.inl ⟨by rfl, ?_⟩) ?_ ?_
            rotate_left
            · intro w'
              go_simp
              with_reducible rfl
            rotate_left
            · simp only [Act.put, List.setIfInBounds_toArray, List.set_cons_zero, List.set_cons_succ, i64_w, i32_w]
              rfl
            refine pure_ (i := 9) (N := some 68) (v := ?_) (a' := ?_) (bm 1023 23) rfl rfl (by kernel_rfl) (fun _ _ _ h => h) (Or.inl ⟨by rfl, ?_⟩) ?_ ?_
            rotate_left
            · intro w'
              go_simp
              with_reducible rfl
            rotate_left
            · simp only [Act.put, List.setIfInBounds_toArray, List.set_cons_zero, List.set_cons_succ, i64_w, i32_w]
              rfl
            refine pure_ (i := 10) (N := some 69) (v := ?_) (a' := ?_) (bm 2047 23) rfl rfl (by kernel_rfl) (fun _ _ _ h => h) (Or.inl ⟨by rfl, ?_⟩) ?_ ?_
            rotate_left
            · intro w'
              go_simp
              with_reducible rfl
            rotate_left
            · simp only [Act.put, List.setIfInBounds_toArray, List.set_cons_zero, List.set_cons_succ, i64_w, i32_w]
              rfl
            refine pure_ (i := 11) (N := some 70) (v := undef) (a' := ?_) (bm 4095 23) rfl rfl (by kernel_rfl) (fun _ _ _ h => h) (Or.inr ⟨by rfl, rfl⟩) ?_ ?_
            rotate_left
            · simp only [Act.put, List.setIfInBounds_toArray, List.set_cons_zero, List.set_cons_succ, i64_w, i32_w]
              rfl
            refine pure_ (i := 12) (N := some 71) (v := undef) (a' := ?_) (bm 8191 23) rfl rfl (by kernel_rfl) (fun _ _ _ h => h) (Or.inr ⟨by rfl, rfl⟩) ?_ ?_
            rotate_left
            · simp only [Act.put, List.setIfInBounds_toArray, List.set_cons_zero, List.set_cons_succ, i64_w, i32_w]
              rfl
            refine pure_ (i := 13) (N := some 72) (v := undef) (a' := ?_) (bm 16383 23) rfl rfl (by kernel_rfl) (fun _ _ _ h => h) (Or.inr ⟨by rfl, rfl⟩) ?_ ?_
            rotate_left
            · simp only [Act.put, List.setIfInBounds_toArray, List.set_cons_zero, List.set_cons_succ, i64_w, i32_w]
              rfl
            refine pure_ (i := 14) (N := some 73) (v := undef) (a' := ?_) (bm 32767 23) rfl rfl (by kernel_rfl) (fun _ _ _ h => h) (Or.inr ⟨by rfl, rfl⟩) ?_ ?_
            rotate_left
            · simp only [Act.put, List.setIfInBounds_toArray, List.set_cons_zero, List.set_cons_succ, i64_w, i32_w]
              rfl
            refine pure_ (i := 15) (N := some 74) (v := undef) (a' := ?_) (bm 65535 23) rfl rfl (by kernel_rfl) (fun _ _ _ h => h) (Or.inr ⟨by rfl, rfl⟩) ?_ ?_
            rotate_left
            · simp only [Act.put, List.setIfInBounds_toArray, List.set_cons_zero, List.set_cons_succ, i64_w, i32_w]
              rfl
            refine pure_ (i := 16) (N := some 75) (v := undef) (a' := ?_) (bm 131071 23) rfl rfl (by kernel_rfl) (fun _ _ _ h => h) (Or.inr ⟨by rfl, rfl⟩) ?_ ?_
            rotate_left
            · simp only [Act.put, List.setIfInBounds_toArray, List.set_cons_zero, List.set_cons_succ, i64_w, i32_w]
              rfl
            refine pure_ (i := 17) (N := some 76) (v := undef) (a' := ?_) (bm 262143 23) rfl rfl (by kernel_rfl) (fun _ _ _ h => h) (Or.inr ⟨by rfl, rfl⟩) ?_ ?_
            rotate_left
            · simp only [Act.put, List.setIfInBounds_toArray, List.set_cons_zero, List.set_cons_succ, i64_w, i32_w]
              rfl
            refine pure_ (i := 18) (N := some 77) (v := undef) (a' := ?_) (bm 524287 23) rfl rfl (by kernel_rfl) (fun _ _ _ h => h) (Or.inr ⟨by rfl, rfl⟩) ?_ ?_
            rotate_left
            · simp only [Act.put, List.setIfInBounds_toArray, List.set_cons_zero, List.set_cons_succ, i64_w, i32_w]
              rfl
            refine pure_ (i := 19) (N := some 78) (v := undef) (a' := ?_) (bm 1048575 23) rfl rfl (by kernel_rfl) (fun _ _ _ h => h) (Or.inr ⟨by rfl, rfl⟩) ?_ ?_
            rotate_left
            · simp only [Act.put, List.setIfInBounds_toArray, List.set_cons_zero, List.set_cons_succ, i64_w, i32_w]
              rfl
            refine pure_ (i := 20) (N := some 79) (v := undef) (a' := ?_) (bm 2097151 23) rfl rfl (by kernel_rfl) (fun _ _ _ h => h) (Or.inr ⟨by rfl, rfl⟩) ?_ ?_
            rotate_left
            · simp only [Act.put, List.setIfInBounds_toArray, List.set_cons_zero, List.set_cons_succ, i64_w, i32_w]
              rfl
            refine pure_ (i := 21) (N := some 80) (v := undef) (a' := ?_) (bm 4194303 23) rfl rfl (by kernel_rfl) (fun _ _ _ h => h) (Or.inr ⟨by rfl, rfl⟩) ?_ ?_
            rotate_left
            · simp only [Act.put, List.setIfInBounds_toArray, List.set_cons_zero, List.set_cons_succ, i64_w, i32_w]
              rfl
            refine pure_ (i := 22) (N := some 81) (v := ?_) (a' := ?_) (bm 8388607 23) rfl rfl (by kernel_rfl) (fun _ _ _ h => h) (Or.inl ⟨by rfl, ?_⟩) ?_ ?_
            rotate_left
            · intro w'
              go_simp
              with_reducible rfl
            rotate_left
            · simp only [Act.put, List.setIfInBounds_toArray, List.set_cons_zero, List.set_cons_succ, i64_w, i32_w]
              rfl
            refine done_ (by kernel_rfl) ?_
            go_wp2
            go_meet
            case rel => exact ⟨rfl, ⟨HO.out.drew⟩⟩
        · have hnil : o = [] := List.eq_nil_of_length_eq_zero (by omega)
          subst hnil
          rw [dofB, if_neg (by decide)] at hb
          obtain rfl := Option.some.inj hb
          refine start_ (n := 23) (S := fun w' => True) (ds := []) #[false, false, false, false, false, false, false, false, false, false, false, false, false, false, false, false, false, false, false, false, false, false, false] (by kernel_rfl) rfl rfl trivial (fun hHeld => ?_)
          refine pure_ (i := 0) (N := some 59) (v := ?_) (a' := ?_) (bm 1 23) rfl rfl (by kernel_rfl) (fun _ _ _ h => h) (Or.inl ⟨by rfl, ?_⟩) ?_ ?_
          rotate_left
          · intro w'
            go_simp
            with_reducible rfl
          rotate_left
          · simp only [Act.put, List.setIfInBounds_toArray, List.set_cons_zero, List.set_cons_succ, i64_w, i32_w]
            rfl
          refine pure_ (i := 1) (N := some 60) (v := ?_) (a' := ?_) (bm 3 23) rfl rfl (by kernel_rfl) (fun _ _ _ h => h) (Or.inl ⟨by rfl, ?_⟩) ?_ ?_
          rotate_left
          · intro w'
            go_simp
            with_reducible rfl
          rotate_left
          · simp only [Act.put, List.setIfInBounds_toArray, List.set_cons_zero, List.set_cons_succ, i64_w, i32_w]
            rfl
          refine pure_ (i := 2) (N := some 61) (v := ?_) (a' := ?_) (bm 7 23) rfl rfl (by kernel_rfl) (fun _ _ _ h => h) (Or.inl ⟨by rfl, ?_⟩) ?_ ?_
          rotate_left
          · intro w'
            go_simp
            with_reducible rfl
          rotate_left
          · simp only [Act.put, List.setIfInBounds_toArray, List.set_cons_zero, List.set_cons_succ, i64_w, i32_w]
            rfl
          refine pure_ (i := 3) (N := some 62) (v := undef) (a' := ?_) (bm 15 23) rfl rfl (by kernel_rfl) (fun _ _ _ h => h) (Or.inr ⟨by rfl, rfl⟩) ?_ ?_
          rotate_left
          · simp only [Act.put, List.setIfInBounds_toArray, List.set_cons_zero, List.set_cons_succ, i64_w, i32_w]
            rfl
          refine pure_ (i := 4) (N := some 63) (v := undef) (a' := ?_) (bm 31 23) rfl rfl (by kernel_rfl) (fun _ _ _ h => h) (Or.inr ⟨by rfl, rfl⟩) ?_ ?_
          rotate_left
          · simp only [Act.put, List.setIfInBounds_toArray, List.set_cons_zero, List.set_cons_succ, i64_w, i32_w]
            rfl
          refine pure_ (i := 5) (N := some 64) (v := undef) (a' := ?_) (bm 63 23) rfl rfl (by kernel_rfl) (fun _ _ _ h => h) (Or.inr ⟨by rfl, rfl⟩) ?_ ?_
          rotate_left
          · simp only [Act.put, List.setIfInBounds_toArray, List.set_cons_zero, List.set_cons_succ, i64_w, i32_w]
            rfl
          refine pure_ (i := 6) (N := some 65) (v := undef) (a' := ?_) (bm 127 23) rfl rfl (by kernel_rfl) (fun _ _ _ h => h) (Or.inr ⟨by rfl, rfl⟩) ?_ ?_
          rotate_left
          · simp only [Act.put, List.setIfInBounds_toArray, List.set_cons_zero, List.set_cons_succ, i64_w, i32_w]
            rfl
          refine pure_ (i := 7) (N := some 66) (v := undef) (a' := ?_) (bm 255 23) rfl rfl (by kernel_rfl) (fun _ _ _ h => h) (Or.inr ⟨by rfl, rfl⟩) ?_ ?_
          rotate_left
          · simp only [Act.put, List.setIfInBounds_toArray, List.set_cons_zero, List.set_cons_succ, i64_w, i32_w]
            rfl
          refine pure_ (i := 8) (N := some 67) (v := undef) (a' := ?_) (bm 511 23) rfl rfl (by kernel_rfl) (fun _ _ _ h => h) (Or.inr ⟨by rfl, rfl⟩) ?_ ?_
          rotate_left
          · simp only [Act.put, List.setIfInBounds_toArray, List.set_cons_zero, List.set_cons_succ, i64_w, i32_w]
            rfl
          refine pure_ (i := 9) (N := some 68) (v := ?_) (a' := ?_) (bm 1023 23) rfl rfl (by kernel_rfl) (fun _ _ _ h => h) (Or.inl ⟨by rfl, ?_⟩) ?_ ?_
          rotate_left
          · intro w'
            go_simp
            with_reducible rfl
          rotate_left
          · simp only [Act.put, List.setIfInBounds_toArray, List.set_cons_zero, List.set_cons_succ, i64_w, i32_w]
            rfl
          refine pure_ (i := 10) (N := some 69) (v := ?_) (a' := ?_) (bm 2047 23) rfl rfl (by kernel_rfl) (fun _ _ _ h => h) (Or.inl ⟨by rfl, ?_⟩) ?_ ?_
          rotate_left
          · intro w'
            go_simp
            with_reducible rfl
          rotate_left
          · simp only [Act.put, List.setIfInBounds_toArray, List.set_cons_zero, List.set_cons_succ, i64_w, i32_w]
            rfl
          refine pure_ (i := 11) (N := some 70) (v := undef) (a' := ?_) (bm 4095 23) rfl rfl (by kernel_rfl) (fun _ _ _ h => h) (Or.inr ⟨by rfl, rfl⟩) ?_ ?_
          rotate_left
          · simp only [Act.put, List.setIfInBounds_toArray, List.set_cons_zero, List.set_cons_succ, i64_w, i32_w]
            rfl
          refine pure_ (i := 12) (N := some 71) (v := undef) (a' := ?_) (bm 8191 23) rfl rfl (by kernel_rfl) (fun _ _ _ h => h) (Or.inr ⟨by rfl, rfl⟩) ?_ ?_
          rotate_left
          · simp only [Act.put, List.setIfInBounds_toArray, List.set_cons_zero, List.set_cons_succ, i64_w, i32_w]
            rfl
          refine pure_ (i := 13) (N := some 72) (v := undef) (a' := ?_) (bm 16383 23) rfl rfl (by kernel_rfl) (fun _ _ _ h => h) (Or.inr ⟨by rfl, rfl⟩) ?_ ?_
          rotate_left
          · simp only [Act.put, List.setIfInBounds_toArray, List.set_cons_zero, List.set_cons_succ, i64_w, i32_w]
            rfl
          refine pure_ (i := 14) (N := some 73) (v := undef) (a' := ?_) (bm 32767 23) rfl rfl (by kernel_rfl) (fun _ _ _ h => h) (Or.inr ⟨by rfl, rfl⟩) ?_ ?_
          rotate_left
          · simp only [Act.put, List.setIfInBounds_toArray, List.set_cons_zero, List.set_cons_succ, i64_w, i32_w]
            rfl
          refine pure_ (i := 15) (N := some 74) (v := undef) (a' := ?_) (bm 65535 23) rfl rfl (by kernel_rfl) (fun _ _ _ h => h) (Or.inr ⟨by rfl, rfl⟩) ?_ ?_
          rotate_left
          · simp only [Act.put, List.setIfInBounds_toArray, List.set_cons_zero, List.set_cons_succ, i64_w, i32_w]
            rfl
          refine pure_ (i := 16) (N := some 75) (v := undef) (a' := ?_) (bm 131071 23) rfl rfl (by kernel_rfl) (fun _ _ _ h => h) (Or.inr ⟨by rfl, rfl⟩) ?_ ?_
          rotate_left
          · simp only [Act.put, List.setIfInBounds_toArray, List.set_cons_zero, List.set_cons_succ, i64_w, i32_w]
            rfl
          refine pure_ (i := 17) (N := some 76) (v := undef) (a' := ?_) (bm 262143 23) rfl rfl (by kernel_rfl) (fun _ _ _ h => h) (Or.inr ⟨by rfl, rfl⟩) ?_ ?_
          rotate_left
          · simp only [Act.put, List.setIfInBounds_toArray, List.set_cons_zero, List.set_cons_succ, i64_w, i32_w]
            rfl
          refine pure_ (i := 18) (N := some 77) (v := undef) (a' := ?_) (bm 524287 23) rfl rfl (by kernel_rfl) (fun _ _ _ h => h) (Or.inr ⟨by rfl, rfl⟩) ?_ ?_
          rotate_left
          · simp only [Act.put, List.setIfInBounds_toArray, List.set_cons_zero, List.set_cons_succ, i64_w, i32_w]
            rfl
          refine pure_ (i := 19) (N := some 78) (v := undef) (a' := ?_) (bm 1048575 23) rfl rfl (by kernel_rfl) (fun _ _ _ h => h) (Or.inr ⟨by rfl, rfl⟩) ?_ ?_
          rotate_left
          · simp only [Act.put, List.setIfInBounds_toArray, List.set_cons_zero, List.set_cons_succ, i64_w, i32_w]
            rfl
          refine pure_ (i := 20) (N := some 79) (v := undef) (a' := ?_) (bm 2097151 23) rfl rfl (by kernel_rfl) (fun _ _ _ h => h) (Or.inr ⟨by rfl, rfl⟩) ?_ ?_
          rotate_left
          · simp only [Act.put, List.setIfInBounds_toArray, List.set_cons_zero, List.set_cons_succ, i64_w, i32_w]
            rfl
          refine pure_ (i := 21) (N := some 80) (v := undef) (a' := ?_) (bm 4194303 23) rfl rfl (by kernel_rfl) (fun _ _ _ h => h) (Or.inr ⟨by rfl, rfl⟩) ?_ ?_
          rotate_left
          · simp only [Act.put, List.setIfInBounds_toArray, List.set_cons_zero, List.set_cons_succ, i64_w, i32_w]
            rfl
          refine pure_ (i := 22) (N := some 81) (v := ?_) (a' := ?_) (bm 8388607 23) rfl rfl (by kernel_rfl) (fun _ _ _ h => h) (Or.inl ⟨by rfl, ?_⟩) ?_ ?_
          rotate_left
          · intro w'
            go_simp
            with_reducible rfl
          rotate_left
          · simp only [Act.put, List.setIfInBounds_toArray, List.set_cons_zero, List.set_cons_succ, i64_w, i32_w]
            rfl
          refine done_ (by kernel_rfl) ?_
          go_wp2
          go_meet
          case rel => exact ⟨rfl, ⟨HO.out.drew⟩⟩
      case rest =>
      obtain ⟨rfl, HO9⟩ := hcut
      clear HO e1
      cases b with
      | true =>
        have hz : 0 < o.length := by
          have hb := HB.out
          rw [dofB] at hb
          by_cases hz : 0 < o.length
          · exact hz
          · rw [if_neg hz] at hb; cases hb
        have p0 : 0 ≤ (o.length : Int) - 1 := by omega
        have r0 : (o.length : Int) - 1 < (o.length : Int) := by omega
        obtain ⟨go, co, eo, gb, gl2, cells, hblk⟩ := Kd.N_form HO9.out.row hz
        injection eo with ea en ec
        subst ea
        subst ec
        clear en
        obtain ⟨ce, hcl, hM, hcc, hfr⟩ := Kd.N_elem HO9.out.row z70 ((o.length : Int) - 1) p0 r0
        obtain ⟨D2, k2, D3, k3, rfl, hm2, hF2, hm3, hF3⟩ := k70_openF hM
        have hix : ∀ j, (((o.length : Int) - 1).toNat * k70.sz + j) = (o.length - 1) * 4 + j := fun j => by show (((o.length : Int) - 1).toNat * 4 + j) = _; omega
        have hy1 : wc.cell? ⟨go, (o.length - 1) * 4 + 1, none⟩ = some (.int .i64 (rd_T70 o ((o.length : Int) - 1)).f1) := by
          have := hcc 1 _ rfl
          rwa [hix] at this
        have hfy1 : wc.frozen? ⟨go, (o.length - 1) * 4 + 1, none⟩ = false := by
          have := hfr 1
          rwa [hix] at this
        have HSEG := Aside0.mk (Kd.N_seg HO9.out.row ((o.length : Int) - 1) p0 r0 (seg := [.int .i64 (wrap64 ((rd_T70 o ((o.length : Int) - 1)).f1 + 1))]) (j := 1) hcl hcc (by show 2 ≤ 4; omega)
          (x' := (⟨(rd_T70 o ((o.length : Int) - 1)).f0, wrap64 ((rd_T70 o ((o.length : Int) - 1)).f1 + 1), (rd_T70 o ((o.length : Int) - 1)).f2, (rd_T70 o ((o.length : Int) - 1)).f3⟩ : S70)) (k70_mkF _ _ ⟨(rd_T70 o ((o.length : Int) - 1)).f0, wrap64 ((rd_T70 o ((o.length : Int) - 1)).f1 + 1), (rd_T70 o ((o.length : Int) - 1)).f2, (rd_T70 o ((o.length : Int) - 1)).f3⟩ hm2 hF2 hm3 hF3) (fun _ hk => hk))
        have HGB := Aside0.mk gb
        have HNE := Aside0.mk (show ga ≠ go from fun e => Kd.N_ne HO9.out.row HO9.out.bk (by decide) (by rw [e]; rfl))
        clear hcl hM hcc hfr gb gl2 hblk hm2 hF2 hm3 hF3 hix HB
        go_wp2
        go_roundg gl
        case measure => omega
        case rel =>
          refine ⟨i + 1, keepO o 1 t true, [], 0, rfl, by simp [wk], HIG, ⟨DfO.clear ⟨blk_far (p := ⟨go, (o.length - 1) * 4 + 1, none⟩) HO9.out.bk HNE.out _, ?_, below_set HO9.out.bel HGB.out⟩⟩, HL⟩
          have h2 := HSEG.out.1
          simp only [World.setCells, show k70.sz = 4 from rfl, show ((o.length : Int) - 1).toNat = o.length - 1 by omega] at h2
          have h3 : (keepO o 1 t true).length = o.length := by simp [keepO]
          exact h2
      | false =>
        have e2' : wc.cell? ⟨ga, 2, none⟩ = some (.slice (some ad2) l2.length c2) := (blk_cell HO9.out.bk 2).trans rfl
        have hx2 := (HO9.out.bel.cell (World.block_lt_of_cell? w _ HX2.out)).trans HX2.out
        simp only [Int.toNat_natCast] at hx2
        have HFT := Aside0.mk (Kd.F_step (Kd.C_F k38_heap HC2.out) (fun k hk _ => HO9.out.bel.block k hk))
        clear HB
        go_wp2_with (at_builtin; refine Kd.N_append k70 (w0 := w) w.heap.size rfl (.tmp 90) (.tmp 97) 64 70 (.agg #[.int .i64 0, .int .i64 0, .slice none 0 0, .slice none 0 0]) 64 rfl Try.underlying64 info70 rfl (by decide) (by decide) _ o ⟨0, 1, t, []⟩ _ (fun _ => True) (fun k => k < w.heap.size) rfl (by simp [Act.eval]) (k70_mkF _ _ ⟨0, 1, t, []⟩ HM2.out HFT.out (Nat.le_refl 0) (Kd.F_nil _ _ _)) (fun k hk => ⟨trivial, fun e => by have := Kd.N_base HO9.out.row k e.symm; omega⟩) (fun _ _ => trivial) HO9.out.row HO9.out.bel HO9.out.bel.size (by have := HLO.out; omega) ?_; intro v1 w4 hR hB hg hat; have HW := Aside0.mk (HO9.out.app hR hB hg); clear hR hB hg hat)
        go_roundg gl
        case measure => omega
        case rel => exact ⟨i + 1, keepO o 1 t false, [], 0, rfl, by simp [wk], HIG, ⟨HW.out.clear⟩, HL⟩
end Go.Proofs.Ytdgemabmmomebaa.PDelta
end

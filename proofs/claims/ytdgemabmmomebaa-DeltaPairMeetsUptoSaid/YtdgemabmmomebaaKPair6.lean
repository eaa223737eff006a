/- Parts of the proof of Pair: nothing is claimed here by itself. -/
import Derived.Test.YtdgemabmmomebaaKPair5
set_option linter.unusedVariables false
set_option linter.unusedSimpArgs false
section
namespace Go.Proofs.Ytdgemabmmomebaa.PDelta
open Go.RowKit Go.Proofs.YtdgemabmmomebaaW.PrintWords Go.Proofs.YtdgemabmmomebaaW.PrintLast Go.Proofs.YtdgemabmmomebaaW.PrintMore
attribute [local go_sem] max2_int min2_int max_two min_two max_three min_three max_four min_four
attribute [local go_sem high] Go.Proofs.Ytdgemabmmomebaa.Ord.leq_str Go.Proofs.Ytdgemabmmomebaa.Ord.gtr_str Go.Proofs.Ytdgemabmmomebaa.Ord.geq_str
def chancerykeep1_with.l0 : Nat → List (S84) → ByteArray → List (S84) → Int → Int → Option ((List (S84)))
  | 0, _, _, _, _, _ => none
  | k + 1, x0, x1, x5, x8, x9 => if x9 < x8 then (if 0 ≤ x9 then (if x9 < (x0.length : Int) then ((chancerykeep1_on.f x1).bind fun t346 => ((chanceryref1_SameAttrs.f k ((rd_T84 x0 x9).f2) t346).bind fun t349 => (if t349 = true then ((chanceryref1_In.f ((rd_T84 x0 x9).f0) 65 90).bind fun t351 => (if t351 = true then (if x5.length < 3518437208883 then (chancerykeep1_with.l0 k x0 x1 (x5 ++ [(⟨(rd_T84 x0 x9).f0, 0, ([] : List (S38))⟩ : S84)]) x8 (wrap64 (x9 + 1))) else (none)) else (chancerykeep1_with.l0 k x0 x1 x5 x8 (wrap64 (x9 + 1))))) else (chancerykeep1_with.l0 k x0 x1 x5 x8 (wrap64 (x9 + 1)))))) else (none)) else (none)) else (some x5)
def chancerykeep1_with.f (k : Nat) (l0 : List (S84)) (a1 : ByteArray) : Option ((List (S84))) := chancerykeep1_with.l0 k l0 a1 ([] : List (S84)) (l0.length : Int) 0
def chancerykeep1_with.T5 : Bool × List (List Nat × List Nat) := (true, [([], []), ([], []), ([0, 1], [0, 1]), ([2], [2]), ([3], [3]), ([], []), ([5], [5]), ([4, 6, 6], [4, 6]), ([7, 7], [7]), ([8], [8]), ([8], [8]), ([9, 10, 8], [8, 9, 10]), ([11, 8], [8, 11]), ([12, 8], [8, 12]), ([13, 8, 8], [8, 13]), ([8, 14], [8, 14])])
def chancerykeep1_with.B5 : List Nat := [0, 0, 3, 7, 15, 0, 32, 127, 255, 511, 511, 2047, 4095, 8191, 16383, 32767]
theorem chancerykeep1_with.tab5 : rtab .any (opsOf Try.f54 5) = chancerykeep1_with.T5 := by kernel_rfl
theorem chancerykeep1_with.bits5 : waitsOk chancerykeep1_with.T5.2 chancerykeep1_with.B5 = true := by kernel_rfl
set_option maxHeartbeats 8000000 in
set_option maxRecDepth 100000 in
theorem chancerykeep1_with.calls (k : Nat) (A0 : Option Addr) (c0 : Nat) (l0 : List (S84)) (a1 : ByteArray) (r : List (S84)) (w : World) (hr0 : Kd.C k84 w A0 l0.length l0) (hc0 : l0.length ≤ c0) (h : chancerykeep1_with.f k l0 a1 = some r) :
    Calls Try.prog 54 #[.slice A0 l0.length c0, .string a1] w fun e w' => ∃ v0_ : Value, e = .returned (v0_) ∧ Kd.S k84 84 w' w.heap.size (fun _ => True) v0_ r ∧ Below w.heap.size w w' := by
  have hu84 := Try.underlying84
  have HR0 := Aside0.mk hr0
  have HC0 := Aside0.mk hc0
  clear hr0 hc0
  have HB := Aside0.mk (Below.refl w.heap.size w)
  have H : (chancerykeep1_with.l0 k l0 a1 ([] : List (S84)) (l0.length : Int) 0) = some r := h
  clear h
  have H' := Aside0.mk H
  clear H
  go_enter Try.func54, Try.ntmps54
  go_wp2
  go_loopg [5, 9] k (fun kq v5 v9 w' => ∃ (x5_1 : List (S84)) (x9_1 : Int), v9 = .int .i64 x9_1 ∧ Aside0 (chancerykeep1_with.l0 kq l0 a1 x5_1 (l0.length : Int) x9_1 = some r) ∧ Aside0 (kq ≤ k) ∧ Aside0 (Kd.S k84 84 w' w.heap.size (fun _ => True) v5 x5_1) ∧ Aside0 (Below w.heap.size w w'))
  case atStart => exact ⟨(([] : List (S84))), (0), (by first | rfl | (simp; done) | (simp [*]; done)), H', ⟨Nat.le_refl _⟩, ⟨by first | exact Kd.S_nil _ _ _ _ _ | exact Kd.N_nil _ _ _ _ _ | exact Kd.V_nil _ _ _ _ _ | exact Kd.Q_nil _ _ _ _ _ | exact Kd.R_nil _ _ _ _ _⟩, ⟨by repeat (first | (with_reducible first | exact HB.out | apply below_alloc | apply pw_below_drewN | apply below_drew1) | exact HB.out)⟩⟩
  case round =>
    clear H'
    try clear p1
    try clear p2
    obtain ⟨x5_1, x9_1, rfl, HA, HK1, HO_5, HB⟩ := hrel
    cases gk with
    | zero => exact absurd HA.out (by simp [chancerykeep1_with.l0])
    | succ k1 =>
      have H := HA.out
      clear HA
      simp only [chancerykeep1_with.l0] at H
      by_cases c3 : x9_1 < (l0.length : Int)
      · rw [if_pos c3] at H
        have c3b0 : decide (x9_1 < (l0.length : Int)) = true := decide_eq_true c3
        clear c3
        by_cases c4 : 0 ≤ x9_1
        · rw [if_pos c4] at H
          have c4b0 : decide (0 ≤ x9_1) = true := decide_eq_true c4
          clear c4
          by_cases c5 : x9_1 < (l0.length : Int)
          · rw [if_pos c5] at H
            have c5b0 : decide (x9_1 < (l0.length : Int)) = true := decide_eq_true c5
            clear c5
            replace H := Option.bind_eq_some_iff.mp H
            obtain ⟨t346, A60, H⟩ := H
            replace H : ((chanceryref1_SameAttrs.f k1 ((rd_T84 l0 x9_1).f2) t346).bind fun t349 => (if t349 = true then ((chanceryref1_In.f ((rd_T84 l0 x9_1).f0) 65 90).bind fun t351 => (if t351 = true then (if x5_1.length < 3518437208883 then (chancerykeep1_with.l0 k1 l0 a1 (x5_1 ++ [(⟨(rd_T84 l0 x9_1).f0, 0, ([] : List (S38))⟩ : S84)]) (l0.length : Int) (wrap64 (x9_1 + 1))) else (none)) else (chancerykeep1_with.l0 k1 l0 a1 x5_1 (l0.length : Int) (wrap64 (x9_1 + 1))))) else (chancerykeep1_with.l0 k1 l0 a1 x5_1 (l0.length : Int) (wrap64 (x9_1 + 1))))) = some r := H
            have A6 := Aside0.mk A60
            clear A60
            replace H := Option.bind_eq_some_iff.mp H
            obtain ⟨t349, A70, H⟩ := H
            replace H : (if t349 = true then ((chanceryref1_In.f ((rd_T84 l0 x9_1).f0) 65 90).bind fun t351 => (if t351 = true then (if x5_1.length < 3518437208883 then (chancerykeep1_with.l0 k1 l0 a1 (x5_1 ++ [(⟨(rd_T84 l0 x9_1).f0, 0, ([] : List (S38))⟩ : S84)]) (l0.length : Int) (wrap64 (x9_1 + 1))) else (none)) else (chancerykeep1_with.l0 k1 l0 a1 x5_1 (l0.length : Int) (wrap64 (x9_1 + 1))))) else (chancerykeep1_with.l0 k1 l0 a1 x5_1 (l0.length : Int) (wrap64 (x9_1 + 1)))) = some r := H
            have A7 := Aside0.mk A70
            clear A70
            by_cases c8 : t349 = true
            · subst c8
              have H1 : ((chanceryref1_In.f ((rd_T84 l0 x9_1).f0) 65 90).bind fun t351 => (if t351 = true then (if x5_1.length < 3518437208883 then (chancerykeep1_with.l0 k1 l0 a1 (x5_1 ++ [(⟨(rd_T84 l0 x9_1).f0, 0, ([] : List (S38))⟩ : S84)]) (l0.length : Int) (wrap64 (x9_1 + 1))) else (none)) else (chancerykeep1_with.l0 k1 l0 a1 x5_1 (l0.length : Int) (wrap64 (x9_1 + 1))))) = some r := by rw [if_pos rfl] at H; exact H
              clear H
              have H := H1
              clear H1
              replace H := Option.bind_eq_some_iff.mp H
              obtain ⟨t351, A90, H⟩ := H
              replace H : (if t351 = true then (if x5_1.length < 3518437208883 then (chancerykeep1_with.l0 k1 l0 a1 (x5_1 ++ [(⟨(rd_T84 l0 x9_1).f0, 0, ([] : List (S38))⟩ : S84)]) (l0.length : Int) (wrap64 (x9_1 + 1))) else (none)) else (chancerykeep1_with.l0 k1 l0 a1 x5_1 (l0.length : Int) (wrap64 (x9_1 + 1)))) = some r := H
              have A9 := Aside0.mk A90
              clear A90
              by_cases c10 : t351 = true
              · subst c10
                have H1 : (if x5_1.length < 3518437208883 then (chancerykeep1_with.l0 k1 l0 a1 (x5_1 ++ [(⟨(rd_T84 l0 x9_1).f0, 0, ([] : List (S38))⟩ : S84)]) (l0.length : Int) (wrap64 (x9_1 + 1))) else (none)) = some r := by rw [if_pos rfl] at H; exact H
                clear H
                have H := H1
                clear H1
                by_cases c11 : x5_1.length < 3518437208883
                · rw [if_pos c11] at H
                  have LMc11 := Aside0.mk c11
                  clear c11
                  obtain ⟨y353, hy353⟩ : ∃ y_ : List (S84), y_ = (x5_1 ++ [(⟨(rd_T84 l0 x9_1).f0, 0, ([] : List (S38))⟩ : S84)]) := ⟨_, rfl⟩
                  replace H : (chancerykeep1_with.l0 k1 l0 a1 y353 (l0.length : Int) (wrap64 (x9_1 + 1))) = some r := by first | (rw [hy353]; with_reducible exact H) | (have H2_ := (Option.bind_some _ _).symm.trans H; rw [hy353]; with_reducible exact H2_) | (have H2_ := (Option.bind_some _ _).symm.trans H; with_reducible exact H2_) | with_reducible exact H | (rw [hy353]; exact H) | exact H
                  have Ny353 := Aside0.mk hy353
                  clear hy353
                  have H' := Aside0.mk H
                  clear H
                  try go_wp2
                  have n0_ := Aside0.mk (Kd.S_drew HO_5.out)
                  have n1_ := Aside0.mk (below_drew1 HB.out)
                  clear HO_5
                  clear HB
                  have HO_5 := n0_
                  have HB := n1_
                  clear n0_ n1_
                  have p345 : 0 ≤ (x9_1 : Int) := of_decide_eq_true (by first | (with_reducible assumption) | assumption)
                  have q345 : x9_1 < (l0.length : Int) := of_decide_eq_true (by first | (with_reducible assumption) | assumption)
                  obtain ⟨ad345, A345_2, c345_2, e345, hx345_0, hx345_1, hx345_2, hl345_2, hi345_2⟩ := at_T84 HR0.out x9_1 p345 q345
                  have hw345_2 := hx345_2
                  have hw345_1 := hx345_1
                  have hw345_0 := hx345_0
                  cases e345
                  replace hx345_0 := (HB.out.cell (World.block_lt_of_cell? w _ hx345_0)).trans hx345_0
                  replace hx345_1 := (HB.out.cell (World.block_lt_of_cell? w _ hx345_1)).trans hx345_1
                  replace hx345_2 := (HB.out.cell (World.block_lt_of_cell? w _ hx345_2)).trans hx345_2
                  have HR345_2 := Aside0.mk hi345_2
                  have HC345_2 := Aside0.mk hl345_2
                  clear hi345_2 hl345_2
                  replace p345 := eq_true p345
                  replace q345 := eq_true q345
                  have p350 : 0 ≤ (x9_1 : Int) := of_decide_eq_true (by first | (with_reducible assumption) | assumption)
                  have q350 : x9_1 < (l0.length : Int) := of_decide_eq_true (by first | (with_reducible assumption) | assumption)
                  obtain ⟨ad350, A350_2, c350_2, e350, hx350_0, hx350_1, hx350_2, hl350_2, hi350_2⟩ := at_T84 HR0.out x9_1 p350 q350
                  have hw350_2 := hx350_2
                  have hw350_1 := hx350_1
                  have hw350_0 := hx350_0
                  obtain rfl : ad345 = ad350 := (by injection e350)
                  replace hx350_0 := (HB.out.cell (World.block_lt_of_cell? w _ hx350_0)).trans hx350_0
                  replace hx350_1 := (HB.out.cell (World.block_lt_of_cell? w _ hx350_1)).trans hx350_1
                  replace hx350_2 := (HB.out.cell (World.block_lt_of_cell? w _ hx350_2)).trans hx350_2
                  have HR350_2 := Aside0.mk hi350_2
                  have HC350_2 := Aside0.mk hl350_2
                  clear hi350_2 hl350_2
                  replace p350 := eq_true p350
                  replace q350 := eq_true q350
                  refine start_ (n := 16) (S := fun w' => w'.cell? (ad345.add ((x9_1).toNat * 3)) = some (.int .i64 ((rd_T84 l0 x9_1).f0)) ∧ w'.cell? ⟨(ad345.add ((x9_1).toNat * 3)).block, (ad345.add ((x9_1).toNat * 3)).off + 1, none⟩ = some (.int .i64 ((rd_T84 l0 x9_1).f1)) ∧ w'.cell? ⟨(ad345.add ((x9_1).toNat * 3)).block, (ad345.add ((x9_1).toNat * 3)).off + 2, none⟩ = some (.slice A345_2 ((rd_T84 l0 x9_1).f2).length c345_2) ∧ w'.cell? (ad345.add ((x9_1).toNat * 3)) = some (.int .i64 ((rd_T84 l0 x9_1).f0)) ∧ w'.cell? ⟨(ad345.add ((x9_1).toNat * 3)).block, (ad345.add ((x9_1).toNat * 3)).off + 1, none⟩ = some (.int .i64 ((rd_T84 l0 x9_1).f1)) ∧ w'.cell? ⟨(ad345.add ((x9_1).toNat * 3)).block, (ad345.add ((x9_1).toNat * 3)).off + 2, none⟩ = some (.slice A350_2 ((rd_T84 l0 x9_1).f2).length c350_2)) (ds := []) #[false, false, false, false, false, false, false, false, false, false, false, false, false, false, false, false] (by kernel_rfl) rfl rfl ⟨((HB.out.cell (World.block_lt_of_cell? w _ hw345_0)).trans hw345_0), ((HB.out.cell (World.block_lt_of_cell? w _ hw345_1)).trans hw345_1), ((HB.out.cell (World.block_lt_of_cell? w _ hw345_2)).trans hw345_2), ((HB.out.cell (World.block_lt_of_cell? w _ hw350_0)).trans hw350_0), ((HB.out.cell (World.block_lt_of_cell? w _ hw350_1)).trans hw350_1), ((HB.out.cell (World.block_lt_of_cell? w _ hw350_2)).trans hw350_2)⟩ (fun hHeld => ?_); refine with_tabW chancerykeep1_with.tab5 chancerykeep1_with.bits5 (fun HT_ HW_ => ?_)
                  generalize wr.drew = w12 at HO_5 HB HR345_2 HR350_2 hx345_0 hx345_1 hx345_2 hx350_0 hx350_1 hx350_2 hHeld ⊢
                  refine pure_ (i := 0) (N := some 12) (v := ?_) (a' := ?_) (bm 1 16) rfl rfl (any_of HT_.out (by kernel_rfl)) (fun _ _ _ h => h) (Or.inl ⟨by rfl, ?_⟩) ?_ ?_
                  rotate_left
                  · intro w'
                    go_simp
                    with_reducible rfl
                  rotate_left
                  · simp only [Act.put, List.setIfInBounds_toArray, List.set_cons_zero, List.set_cons_succ, i64_w, i32_w]
                    rfl
                  refine pure_ (i := 1) (N := some 13) (v := ?_) (a' := ?_) (bm 3 16) rfl rfl (any_of HT_.out (by kernel_rfl)) (fun _ _ _ h => h) (Or.inl ⟨by rfl, ?_⟩) ?_ ?_
                  rotate_left
                  · intro w'
                    go_simp
                    with_reducible rfl
                  rotate_left
                  · simp only [Act.put, List.setIfInBounds_toArray, List.set_cons_zero, List.set_cons_succ, i64_w, i32_w]
                    rfl
                  refine pure_ (i := 2) (N := some 14) (v := ?_) (a' := ?_) (bm 7 16) rfl rfl (any_of HT_.out (by kernel_rfl)) (fun _ _ _ h => h) (Or.inl ⟨by rfl, ?_⟩) ?_ ?_
                  rotate_left
                  · intro w'
                    go_simp
                    with_reducible rfl
                  rotate_left
                  · simp only [Act.put, List.setIfInBounds_toArray, List.set_cons_zero, List.set_cons_succ, i64_w, i32_w]
                    rfl
                  refine pure_ (i := 3) (N := some 15) (v := ?_) (a' := ?_) (bm 15 16) rfl rfl (any_of HT_.out (by kernel_rfl)) (fun _ _ _ h => h) (Or.inl ⟨by rfl, ?_⟩) ?_ ?_
                  rotate_left
                  · intro w'
                    go_simp
                    with_reducible rfl
                  rotate_left
                  · simp only [Act.put, List.setIfInBounds_toArray, List.set_cons_zero, List.set_cons_succ, i64_w, i32_w]
                    rfl
                  refine pure_ (i := 5) (N := some 17) (v := ?_) (a' := ?_) (bm 47 16) rfl rfl (any_of HT_.out (by kernel_rfl)) (fun _ _ _ h => h) (Or.inl ⟨by rfl, ?_⟩) ?_ ?_
                  rotate_left
                  · intro w'
                    go_simp
                    with_reducible rfl
                  rotate_left
                  · simp only [Act.put, List.setIfInBounds_toArray, List.set_cons_zero, List.set_cons_succ, i64_w, i32_w]
                    rfl
                  refine take_ (i := 4) (N := some 16) (v := ?_) (a' := ?_) (bm 63 16) rfl rfl (take_ofW HT_.out HW_.out (by kernel_rfl)) (fun _ _ _ h => h) (Or.inl ⟨by rfl, ?_⟩) hHeld ?_ ?_
                  rotate_left
                  · rintro w' ⟨s0, s1, s2, s3, s4, s5⟩
                    go_simp
                    with_reducible rfl
                  rotate_left
                  · simp only [Act.put, List.setIfInBounds_toArray, List.set_cons_zero, List.set_cons_succ, i64_w, i32_w]
                    rfl
                  refine one_ (i := 6) (N := some 18) (bm 127 16) rfl rfl (one_of HT_.out (by kernel_rfl)) (by decide) (fun K hK => ?_)
                  refine goes_ Try.func83 (by kernel_rfl) rfl #[.string a1] (by rfl) rfl rfl (by (try simp only [List.map_toArray, List.map_cons, List.map_nil]); first | done | rfl | (simp only [List.length_drop, List.length_take]; rfl)) ?_
                  with_reducible refine (chancerykeep1_on.calls a1 t346 _ A6.out).mono ?_
                  rintro e w13 ⟨v347, rfl, ho0, hb⟩
                  refine ⟨_, rfl, ?_⟩
                  have n0_ := Aside0.mk (Kd.S_elder' (by (with_reducible repeat (first | apply Kd.S_alloc | apply Kd.S_drewN | apply Kd.S_drew)); exact HO_5.out) (Kd.R_base ho0) hb)
                  have n1_ := Aside0.mk (Kd.R_lower ho0 (below_size (by with_reducible repeat first | exact HB.out | apply below_alloc | apply pw_below_drewN | apply below_drew1)))
                  have n2_ := Aside0.mk (below_step (by with_reducible repeat first | exact HB.out | apply below_alloc | apply pw_below_drewN | apply below_drew1) hb)
                  clear HO_5
                  clear HB
                  have HO_5 := n0_
                  have HO348 := n1_
                  have HB := n2_
                  clear n0_ n1_ n2_
                  (try clear hb)
                  (try clear hb2)
                  (try clear hk)
                  (try clear hi)
                  (try clear ho0)
                  obtain ⟨Ao14, co14, eo14⟩ := Kd.R_slice HO348.out
                  (first | subst eo14 | (injection eo14 with f1_ f2_ f3_; have f4_ := f1_.symm; have f5_ := f3_.symm; clear f1_ f2_ f3_; subst f4_; subst f5_))
                  refine hK.out _ _ ⟨((HB.out.cell (World.block_lt_of_cell? w _ hw345_0)).trans hw345_0), ((HB.out.cell (World.block_lt_of_cell? w _ hw345_1)).trans hw345_1), ((HB.out.cell (World.block_lt_of_cell? w _ hw345_2)).trans hw345_2), ((HB.out.cell (World.block_lt_of_cell? w _ hw350_0)).trans hw350_0), ((HB.out.cell (World.block_lt_of_cell? w _ hw350_1)).trans hw350_1), ((HB.out.cell (World.block_lt_of_cell? w _ hw350_2)).trans hw350_2)⟩ (fun hHeld => ?_)
                  clear hK K
                  refine norm_ (a' := ?_) ?_ ?_
                  rotate_left
                  · show Act.put _ (some 18) _ = _
                    simp only [Act.put, List.setIfInBounds_toArray, List.set_cons_zero, List.set_cons_succ, i64_w, i32_w]
                    rfl
                  refine one_ (i := 7) (N := some 19) (bm 255 16) rfl rfl (one_of HT_.out (by kernel_rfl)) (by decide) (fun K hK => ?_)
                  refine goes_ Try.func25 (by kernel_rfl) rfl #[.slice A345_2 ((rd_T84 l0 x9_1).f2).length c345_2, .slice Ao14 t346.length co14] (by rfl) rfl rfl (by (try simp only [List.map_toArray, List.map_cons, List.map_nil]); first | done | rfl | (simp only [List.length_drop, List.length_take]; rfl)) ?_
                  with_reducible refine (chanceryref1_SameAttrs.calls k1 _ _ ((rd_T84 l0 x9_1).f2) _ _ t346 true _ ?side1 ?side2 ?side3 ?side4 A7.out).mono ?_
                  (case side1 => repeat (first | exact (Kd.C_below HR345_2.out HB.out) | (with_reducible refine Kd.C_alloc ?_ _) | (with_reducible refine Kd.C_drewN ?_ _) | (with_reducible refine Kd.C_drew ?_)))
                  (case side2 => exact HC345_2.out)
                  (case side3 => repeat (first | exact (Kd.R_reads' HO348.out).2.2 | (with_reducible refine Kd.C_alloc ?_ _) | (with_reducible refine Kd.C_drewN ?_ _) | (with_reducible refine Kd.C_drew ?_)))
                  (case side4 => exact (Kd.R_reads' HO348.out).2.1)
                  rintro e w' ⟨rfl, ⟨nd, rfl⟩⟩
                  refine ⟨_, rfl, ?_⟩
                  refine hK.out _ _ ⟨((HB.out.cell (World.block_lt_of_cell? w _ hw345_0)).trans hw345_0), ((HB.out.cell (World.block_lt_of_cell? w _ hw345_1)).trans hw345_1), ((HB.out.cell (World.block_lt_of_cell? w _ hw345_2)).trans hw345_2), ((HB.out.cell (World.block_lt_of_cell? w _ hw350_0)).trans hw350_0), ((HB.out.cell (World.block_lt_of_cell? w _ hw350_1)).trans hw350_1), ((HB.out.cell (World.block_lt_of_cell? w _ hw350_2)).trans hw350_2)⟩ (fun hHeld => ?_)
                  clear hK K
                  refine norm_ (a' := ?_) ?_ ?_
                  rotate_left
                  · show Act.put _ (some 19) _ = _
                    simp only [Act.put, List.setIfInBounds_toArray, List.set_cons_zero, List.set_cons_succ, i64_w, i32_w]
                    rfl
                  refine pure_ (i := 8) (N := some 20) (v := ?_) (a' := ?_) (bm 511 16) rfl rfl (any_of HT_.out (by kernel_rfl)) (fun _ _ _ h => h) (Or.inl ⟨by rfl, ?_⟩) ?_ ?_
                  rotate_left
                  · intro w'
                    go_simp
                    with_reducible rfl
                  rotate_left
                  · simp only [Act.put, List.setIfInBounds_toArray, List.set_cons_zero, List.set_cons_succ, i64_w, i32_w]
                    rfl
                  refine pure_ (i := 9) (N := some 21) (v := ?_) (a' := ?_) (bm 1023 16) rfl rfl (any_of HT_.out (by kernel_rfl)) (fun _ _ _ h => h) (Or.inl ⟨by rfl, ?_⟩) ?_ ?_
                  rotate_left
                  · intro w'
                    go_simp
                    with_reducible rfl
                  rotate_left
                  · simp only [Act.put, List.setIfInBounds_toArray, List.set_cons_zero, List.set_cons_succ, i64_w, i32_w]
                    rfl
                  refine pure_ (i := 10) (N := some 22) (v := ?_) (a' := ?_) (bm 2047 16) rfl rfl (any_of HT_.out (by kernel_rfl)) (fun _ _ _ h => h) (Or.inl ⟨by rfl, ?_⟩) ?_ ?_
                  rotate_left
                  · intro w'
                    go_simp
                    with_reducible rfl
                  rotate_left
                  · simp only [Act.put, List.setIfInBounds_toArray, List.set_cons_zero, List.set_cons_succ, i64_w, i32_w]
                    rfl
                  refine pure_ (i := 11) (N := some 23) (v := ?_) (a' := ?_) (bm 4095 16) rfl rfl (any_of HT_.out (by kernel_rfl)) (fun _ _ _ h => h) (Or.inl ⟨by rfl, ?_⟩) ?_ ?_
                  rotate_left
                  · intro w'
                    go_simp
                    with_reducible rfl
                  rotate_left
                  · simp only [Act.put, List.setIfInBounds_toArray, List.set_cons_zero, List.set_cons_succ, i64_w, i32_w]
                    rfl
                  refine pure_ (i := 12) (N := some 24) (v := ?_) (a' := ?_) (bm 8191 16) rfl rfl (any_of HT_.out (by kernel_rfl)) (fun _ _ _ h => h) (Or.inl ⟨by rfl, ?_⟩) ?_ ?_
                  rotate_left
                  · intro w'
                    go_simp
                    with_reducible rfl
                  rotate_left
                  · simp only [Act.put, List.setIfInBounds_toArray, List.set_cons_zero, List.set_cons_succ, i64_w, i32_w]
                    rfl
                  refine take_ (i := 13) (N := some 25) (v := ?_) (a' := ?_) (bm 16383 16) rfl rfl (take_ofW HT_.out HW_.out (by kernel_rfl)) (fun _ _ _ h => h) (Or.inl ⟨by rfl, ?_⟩) hHeld ?_ ?_
                  rotate_left
                  · rintro w' ⟨s0, s1, s2, s3, s4, s5⟩
                    go_simp
                    with_reducible rfl
                  rotate_left
                  · simp only [Act.put, List.setIfInBounds_toArray, List.set_cons_zero, List.set_cons_succ, i64_w, i32_w]
                    rfl
                  refine one_ (i := 14) (N := some 26) (bm 32767 16) rfl rfl (one_of HT_.out (by kernel_rfl)) (by decide) (fun K hK => ?_)
                  refine goes_ Try.func52 (by kernel_rfl) rfl #[.int .i64 ((rd_T84 l0 x9_1).f0), .int .i64 65, .int .i64 90] (by rfl) rfl rfl (by (try simp only [List.map_toArray, List.map_cons, List.map_nil]); first | done | rfl | (simp only [List.length_drop, List.length_take]; rfl)) ?_
                  with_reducible refine (chanceryref1_In.calls ((rd_T84 l0 x9_1).f0) 65 90 true _ A9.out).mono ?_
                  rintro e w' ⟨rfl, ⟨nd, rfl⟩⟩
                  refine ⟨_, rfl, ?_⟩
                  refine hK.out _ _ ⟨((HB.out.cell (World.block_lt_of_cell? w _ hw345_0)).trans hw345_0), ((HB.out.cell (World.block_lt_of_cell? w _ hw345_1)).trans hw345_1), ((HB.out.cell (World.block_lt_of_cell? w _ hw345_2)).trans hw345_2), ((HB.out.cell (World.block_lt_of_cell? w _ hw350_0)).trans hw350_0), ((HB.out.cell (World.block_lt_of_cell? w _ hw350_1)).trans hw350_1), ((HB.out.cell (World.block_lt_of_cell? w _ hw350_2)).trans hw350_2)⟩ (fun hHeld => ?_)
                  clear hK K
                  refine norm_ (a' := ?_) ?_ ?_
                  rotate_left
                  · show Act.put _ (some 26) _ = _
                    simp only [Act.put, List.setIfInBounds_toArray, List.set_cons_zero, List.set_cons_succ, i64_w, i32_w]
                    rfl
                  refine pure_ (i := 15) (N := some 27) (v := ?_) (a' := ?_) (bm 65535 16) rfl rfl (any_of HT_.out (by kernel_rfl)) (fun _ _ _ h => h) (Or.inl ⟨by rfl, ?_⟩) ?_ ?_
                  rotate_left
                  · intro w'
                    go_simp
                    with_reducible rfl
                  rotate_left
                  · simp only [Act.put, List.setIfInBounds_toArray, List.set_cons_zero, List.set_cons_succ, i64_w, i32_w]
                    rfl
                  refine done_ (done_of HT_.out (by kernel_rfl)) ?_
                  have p352 : 0 ≤ (x9_1 : Int) := of_decide_eq_true (by first | (with_reducible assumption) | assumption)
                  have q352 : x9_1 < (l0.length : Int) := of_decide_eq_true (by first | (with_reducible assumption) | assumption)
                  obtain ⟨ad352, A352_2, c352_2, e352, hx352_0, hx352_1, hx352_2, hl352_2, hi352_2⟩ := at_T84 HR0.out x9_1 p352 q352
                  obtain rfl : ad345 = ad352 := (by injection e352)
                  have hv352_2 := hx352_2
                  replace hx352_0 := (HB.out.cell (World.block_lt_of_cell? w _ hx352_0)).trans hx352_0
                  replace hx352_1 := (HB.out.cell (World.block_lt_of_cell? w _ hx352_1)).trans hx352_1
                  replace hx352_2 := (HB.out.cell (World.block_lt_of_cell? w _ hx352_2)).trans hx352_2
                  have HR352_2 := Aside0.mk hi352_2
                  have HC352_2 := Aside0.mk hl352_2
                  clear hi352_2 hl352_2
                  replace p352 := eq_true p352
                  replace q352 := eq_true q352
                  have ea_ := Option.some.inj (hw350_2.symm.trans hv352_2)
                  injection ea_ with ea_ en_ ec_
                  subst ea_
                  subst ec_
                  clear en_
                  try go_wp2_with (first | ((with_reducible refine gate_builtin (b := .append) (xs := #[.tmp 28, .tmp 35]) rfl ?_); at_builtin; refine Kd.S_append k84 (w0 := w) w.heap.size rfl (.tmp 28) (.tmp 35) 63 84 (.agg #[(.int .i64 0), (.int .i64 0), (.slice none 0 0)]) 40 rfl Try.underlying63 info84 rfl (by decide) (by omega) u5 x5_1 (⟨(rd_T84 l0 x9_1).f0, 0, ([] : List (S38))⟩ : S84) [.int .i64 ((rd_T84 l0 x9_1).f0), .int .i64 0, .slice none 0 0] (fun k_ => some k_ ≠ (.slice Ao14 t346.length co14 : Value).ownBlock) (fun _ => False) rfl rfl ?aP (fun k_ hk_ => hk_.elim) ?aF ?aO ?aB ?aS ?aL ?_; (case aP => exact k84_mkM _ _ _ (⟨(rd_T84 l0 x9_1).f0, 0, ([] : List (S38))⟩ : S84) (Kd.R_nil _ _ _ _ _)); (case aB => exact (by with_reducible repeat first | exact HB.out | apply below_alloc | apply pw_below_drewN | apply below_drew1)); (case aF => exact (fun k_ hk => Kd.fresh' (Kd.R_lt (by (with_reducible repeat (first | apply Kd.R_alloc | apply Kd.R_drewN | apply Kd.R_drew)); exact HO348.out)) k_ hk)); (case aO => exact (by (with_reducible repeat (first | apply Kd.S_alloc | apply Kd.S_drewN | apply Kd.S_drew)); exact Kd.S_mono HO_5.out (fun k_ hk => ⟨hk.2, fun e_ => e_⟩))); (case aS => exact (below_size (by with_reducible repeat first | exact HB.out | apply below_alloc | apply pw_below_drewN | apply below_drew1))); (case aL => have := LMc11.out; omega); intro v354 w15 ho hb hg hat; rw [← Ny353.out] at ho; have n0_ := Aside0.mk (Kd.R_over' (by (with_reducible repeat (first | apply Kd.R_alloc | apply Kd.R_drewN | apply Kd.R_drew)); exact HO348.out) (Kd.S_typed (by (with_reducible repeat (first | apply Kd.S_alloc | apply Kd.S_drewN | apply Kd.S_drew)); exact HO_5.out)) (by decide) hg); have n1_ := Aside0.mk (hb); have n2_ := Aside0.mk (ho); clear HO348; clear HB; clear HO_5; have HO348 := n0_; have HB := n1_; have HO355 := n2_; clear n0_ n1_ n2_; clear ho hb hg hat))
                  go_roundg k1
                  case measure => have := HK1.out; omega
                  case rel => exact ⟨(y353), (wrap64 (x9_1 + 1)), (by first | rfl | (simp; done) | (simp [*]; done)), H', ⟨by have := HK1.out; omega⟩, ⟨by (with_reducible repeat (first | apply Kd.S_alloc | apply Kd.S_drewN | apply Kd.S_drew)); exact Kd.S_mono HO355.out (fun _ hk => trivial)⟩, ⟨by repeat (first | (with_reducible first | exact HB.out | apply below_alloc | apply pw_below_drewN | apply below_drew1) | exact HB.out)⟩⟩
                · rw [if_neg c11] at H
                  exact absurd H (by simp)
              · replace c10 := Bool.eq_false_iff.mpr c10
                subst c10
                have H1 : (chancerykeep1_with.l0 k1 l0 a1 x5_1 (l0.length : Int) (wrap64 (x9_1 + 1))) = some r := by rw [if_neg (show ¬ (false = true) by decide)] at H; exact H
                clear H
                have H := H1
                clear H1
                have H' := Aside0.mk H
                clear H
                try go_wp2
                have n0_ := Aside0.mk (Kd.S_drew HO_5.out)
                have n1_ := Aside0.mk (below_drew1 HB.out)
                clear HO_5
                clear HB
                have HO_5 := n0_
                have HB := n1_
                clear n0_ n1_
                have p345 : 0 ≤ (x9_1 : Int) := of_decide_eq_true (by first | (with_reducible assumption) | assumption)
                have q345 : x9_1 < (l0.length : Int) := of_decide_eq_true (by first | (with_reducible assumption) | assumption)
                obtain ⟨ad345, A345_2, c345_2, e345, hx345_0, hx345_1, hx345_2, hl345_2, hi345_2⟩ := at_T84 HR0.out x9_1 p345 q345
                have hw345_2 := hx345_2
                have hw345_1 := hx345_1
                have hw345_0 := hx345_0
                cases e345
                replace hx345_0 := (HB.out.cell (World.block_lt_of_cell? w _ hx345_0)).trans hx345_0
                replace hx345_1 := (HB.out.cell (World.block_lt_of_cell? w _ hx345_1)).trans hx345_1
                replace hx345_2 := (HB.out.cell (World.block_lt_of_cell? w _ hx345_2)).trans hx345_2
                have HR345_2 := Aside0.mk hi345_2
                have HC345_2 := Aside0.mk hl345_2
                clear hi345_2 hl345_2
                replace p345 := eq_true p345
                replace q345 := eq_true q345
                have p350 : 0 ≤ (x9_1 : Int) := of_decide_eq_true (by first | (with_reducible assumption) | assumption)
                have q350 : x9_1 < (l0.length : Int) := of_decide_eq_true (by first | (with_reducible assumption) | assumption)
                obtain ⟨ad350, A350_2, c350_2, e350, hx350_0, hx350_1, hx350_2, hl350_2, hi350_2⟩ := at_T84 HR0.out x9_1 p350 q350
                have hw350_2 := hx350_2
                have hw350_1 := hx350_1
                have hw350_0 := hx350_0
                obtain rfl : ad345 = ad350 := (by injection e350)
                replace hx350_0 := (HB.out.cell (World.block_lt_of_cell? w _ hx350_0)).trans hx350_0
                replace hx350_1 := (HB.out.cell (World.block_lt_of_cell? w _ hx350_1)).trans hx350_1
                replace hx350_2 := (HB.out.cell (World.block_lt_of_cell? w _ hx350_2)).trans hx350_2
                have HR350_2 := Aside0.mk hi350_2
                have HC350_2 := Aside0.mk hl350_2
                clear hi350_2 hl350_2
                replace p350 := eq_true p350
                replace q350 := eq_true q350
                refine start_ (n := 16) (S := fun w' => w'.cell? (ad345.add ((x9_1).toNat * 3)) = some (.int .i64 ((rd_T84 l0 x9_1).f0)) ∧ w'.cell? ⟨(ad345.add ((x9_1).toNat * 3)).block, (ad345.add ((x9_1).toNat * 3)).off + 1, none⟩ = some (.int .i64 ((rd_T84 l0 x9_1).f1)) ∧ w'.cell? ⟨(ad345.add ((x9_1).toNat * 3)).block, (ad345.add ((x9_1).toNat * 3)).off + 2, none⟩ = some (.slice A345_2 ((rd_T84 l0 x9_1).f2).length c345_2) ∧ w'.cell? (ad345.add ((x9_1).toNat * 3)) = some (.int .i64 ((rd_T84 l0 x9_1).f0)) ∧ w'.cell? ⟨(ad345.add ((x9_1).toNat * 3)).block, (ad345.add ((x9_1).toNat * 3)).off + 1, none⟩ = some (.int .i64 ((rd_T84 l0 x9_1).f1)) ∧ w'.cell? ⟨(ad345.add ((x9_1).toNat * 3)).block, (ad345.add ((x9_1).toNat * 3)).off + 2, none⟩ = some (.slice A350_2 ((rd_T84 l0 x9_1).f2).length c350_2)) (ds := []) #[false, false, false, false, false, false, false, false, false, false, false, false, false, false, false, false] (by kernel_rfl) rfl rfl ⟨((HB.out.cell (World.block_lt_of_cell? w _ hw345_0)).trans hw345_0), ((HB.out.cell (World.block_lt_of_cell? w _ hw345_1)).trans hw345_1), ((HB.out.cell (World.block_lt_of_cell? w _ hw345_2)).trans hw345_2), ((HB.out.cell (World.block_lt_of_cell? w _ hw350_0)).trans hw350_0), ((HB.out.cell (World.block_lt_of_cell? w _ hw350_1)).trans hw350_1), ((HB.out.cell (World.block_lt_of_cell? w _ hw350_2)).trans hw350_2)⟩ (fun hHeld => ?_); refine with_tabW chancerykeep1_with.tab5 chancerykeep1_with.bits5 (fun HT_ HW_ => ?_)
                generalize wr.drew = w16 at HO_5 HB HR345_2 HR350_2 hx345_0 hx345_1 hx345_2 hx350_0 hx350_1 hx350_2 hHeld ⊢
                refine pure_ (i := 0) (N := some 12) (v := ?_) (a' := ?_) (bm 1 16) rfl rfl (any_of HT_.out (by kernel_rfl)) (fun _ _ _ h => h) (Or.inl ⟨by rfl, ?_⟩) ?_ ?_
                rotate_left
                · intro w'
                  go_simp
                  with_reducible rfl
                rotate_left
                · simp only [Act.put, List.setIfInBounds_toArray, List.set_cons_zero, List.set_cons_succ, i64_w, i32_w]
                  rfl
                refine pure_ (i := 1) (N := some 13) (v := ?_) (a' := ?_) (bm 3 16) rfl rfl (any_of HT_.out (by kernel_rfl)) (fun _ _ _ h => h) (Or.inl ⟨by rfl, ?_⟩) ?_ ?_
                rotate_left
                · intro w'
                  go_simp
                  with_reducible rfl
                rotate_left
                · simp only [Act.put, List.setIfInBounds_toArray, List.set_cons_zero, List.set_cons_succ, i64_w, i32_w]
                  rfl
                refine pure_ (i := 2) (N := some 14) (v := ?_) (a' := ?_) (bm 7 16) rfl rfl (any_of HT_.out (by kernel_rfl)) (fun _ _ _ h => h) (Or.inl ⟨by rfl, ?_⟩) ?_ ?_
                rotate_left
                · intro w'
                  go_simp
                  with_reducible rfl
                rotate_left
                · simp only [Act.put, List.setIfInBounds_toArray, List.set_cons_zero, List.set_cons_succ, i64_w, i32_w]
                  rfl
                refine pure_ (i := 3) (N := some 15) (v := ?_) (a' := ?_) (bm 15 16) rfl rfl (any_of HT_.out (by kernel_rfl)) (fun _ _ _ h => h) (Or.inl ⟨by rfl, ?_⟩) ?_ ?_
                rotate_left
                · intro w'
                  go_simp
                  with_reducible rfl
                rotate_left
                · simp only [Act.put, List.setIfInBounds_toArray, List.set_cons_zero, List.set_cons_succ, i64_w, i32_w]
                  rfl
                refine pure_ (i := 5) (N := some 17) (v := ?_) (a' := ?_) (bm 47 16) rfl rfl (any_of HT_.out (by kernel_rfl)) (fun _ _ _ h => h) (Or.inl ⟨by rfl, ?_⟩) ?_ ?_
                rotate_left
                · intro w'
                  go_simp
                  with_reducible rfl
                rotate_left
                · simp only [Act.put, List.setIfInBounds_toArray, List.set_cons_zero, List.set_cons_succ, i64_w, i32_w]
                  rfl
                refine take_ (i := 4) (N := some 16) (v := ?_) (a' := ?_) (bm 63 16) rfl rfl (take_ofW HT_.out HW_.out (by kernel_rfl)) (fun _ _ _ h => h) (Or.inl ⟨by rfl, ?_⟩) hHeld ?_ ?_
                rotate_left
                · rintro w' ⟨s0, s1, s2, s3, s4, s5⟩
                  go_simp
                  with_reducible rfl
                rotate_left
                · simp only [Act.put, List.setIfInBounds_toArray, List.set_cons_zero, List.set_cons_succ, i64_w, i32_w]
                  rfl
                refine one_ (i := 6) (N := some 18) (bm 127 16) rfl rfl (one_of HT_.out (by kernel_rfl)) (by decide) (fun K hK => ?_)
                refine goes_ Try.func83 (by kernel_rfl) rfl #[.string a1] (by rfl) rfl rfl (by (try simp only [List.map_toArray, List.map_cons, List.map_nil]); first | done | rfl | (simp only [List.length_drop, List.length_take]; rfl)) ?_
                with_reducible refine (chancerykeep1_on.calls a1 t346 _ A6.out).mono ?_
                rintro e w17 ⟨v347, rfl, ho0, hb⟩
                refine ⟨_, rfl, ?_⟩
                have n0_ := Aside0.mk (Kd.S_elder' (by (with_reducible repeat (first | apply Kd.S_alloc | apply Kd.S_drewN | apply Kd.S_drew)); exact HO_5.out) (Kd.R_base ho0) hb)
                have n1_ := Aside0.mk (Kd.R_lower ho0 (below_size (by with_reducible repeat first | exact HB.out | apply below_alloc | apply pw_below_drewN | apply below_drew1)))
                have n2_ := Aside0.mk (below_step (by with_reducible repeat first | exact HB.out | apply below_alloc | apply pw_below_drewN | apply below_drew1) hb)
                clear HO_5
                clear HB
                have HO_5 := n0_
                have HO348 := n1_
                have HB := n2_
                clear n0_ n1_ n2_
                (try clear hb)
                (try clear hb2)
                (try clear hk)
                (try clear hi)
                (try clear ho0)
                obtain ⟨Ao18, co18, eo18⟩ := Kd.R_slice HO348.out
                (first | subst eo18 | (injection eo18 with f1_ f2_ f3_; have f4_ := f1_.symm; have f5_ := f3_.symm; clear f1_ f2_ f3_; subst f4_; subst f5_))
                refine hK.out _ _ ⟨((HB.out.cell (World.block_lt_of_cell? w _ hw345_0)).trans hw345_0), ((HB.out.cell (World.block_lt_of_cell? w _ hw345_1)).trans hw345_1), ((HB.out.cell (World.block_lt_of_cell? w _ hw345_2)).trans hw345_2), ((HB.out.cell (World.block_lt_of_cell? w _ hw350_0)).trans hw350_0), ((HB.out.cell (World.block_lt_of_cell? w _ hw350_1)).trans hw350_1), ((HB.out.cell (World.block_lt_of_cell? w _ hw350_2)).trans hw350_2)⟩ (fun hHeld => ?_)
                clear hK K
                refine norm_ (a' := ?_) ?_ ?_
                rotate_left
                · show Act.put _ (some 18) _ = _
                  simp only [Act.put, List.setIfInBounds_toArray, List.set_cons_zero, List.set_cons_succ, i64_w, i32_w]
                  rfl
                refine one_ (i := 7) (N := some 19) (bm 255 16) rfl rfl (one_of HT_.out (by kernel_rfl)) (by decide) (fun K hK => ?_)
                refine goes_ Try.func25 (by kernel_rfl) rfl #[.slice A345_2 ((rd_T84 l0 x9_1).f2).length c345_2, .slice Ao18 t346.length co18] (by rfl) rfl rfl (by (try simp only [List.map_toArray, List.map_cons, List.map_nil]); first | done | rfl | (simp only [List.length_drop, List.length_take]; rfl)) ?_
                with_reducible refine (chanceryref1_SameAttrs.calls k1 _ _ ((rd_T84 l0 x9_1).f2) _ _ t346 true _ ?side1 ?side2 ?side3 ?side4 A7.out).mono ?_
                (case side1 => repeat (first | exact (Kd.C_below HR345_2.out HB.out) | (with_reducible refine Kd.C_alloc ?_ _) | (with_reducible refine Kd.C_drewN ?_ _) | (with_reducible refine Kd.C_drew ?_)))
                (case side2 => exact HC345_2.out)
                (case side3 => repeat (first | exact (Kd.R_reads' HO348.out).2.2 | (with_reducible refine Kd.C_alloc ?_ _) | (with_reducible refine Kd.C_drewN ?_ _) | (with_reducible refine Kd.C_drew ?_)))
                (case side4 => exact (Kd.R_reads' HO348.out).2.1)
                rintro e w' ⟨rfl, ⟨nd, rfl⟩⟩
                refine ⟨_, rfl, ?_⟩
                refine hK.out _ _ ⟨((HB.out.cell (World.block_lt_of_cell? w _ hw345_0)).trans hw345_0), ((HB.out.cell (World.block_lt_of_cell? w _ hw345_1)).trans hw345_1), ((HB.out.cell (World.block_lt_of_cell? w _ hw345_2)).trans hw345_2), ((HB.out.cell (World.block_lt_of_cell? w _ hw350_0)).trans hw350_0), ((HB.out.cell (World.block_lt_of_cell? w _ hw350_1)).trans hw350_1), ((HB.out.cell (World.block_lt_of_cell? w _ hw350_2)).trans hw350_2)⟩ (fun hHeld => ?_)
                clear hK K
                refine norm_ (a' := ?_) ?_ ?_
                rotate_left
                · show Act.put _ (some 19) _ = _
                  simp only [Act.put, List.setIfInBounds_toArray, List.set_cons_zero, List.set_cons_succ, i64_w, i32_w]
                  rfl
                refine pure_ (i := 8) (N := some 20) (v := ?_) (a' := ?_) (bm 511 16) rfl rfl (any_of HT_.out (by kernel_rfl)) (fun _ _ _ h => h) (Or.inl ⟨by rfl, ?_⟩) ?_ ?_
                rotate_left
                · intro w'
                  go_simp
                  with_reducible rfl
                rotate_left
                · simp only [Act.put, List.setIfInBounds_toArray, List.set_cons_zero, List.set_cons_succ, i64_w, i32_w]
                  rfl
                refine pure_ (i := 9) (N := some 21) (v := ?_) (a' := ?_) (bm 1023 16) rfl rfl (any_of HT_.out (by kernel_rfl)) (fun _ _ _ h => h) (Or.inl ⟨by rfl, ?_⟩) ?_ ?_
                rotate_left
                · intro w'
                  go_simp
                  with_reducible rfl
                rotate_left
                · simp only [Act.put, List.setIfInBounds_toArray, List.set_cons_zero, List.set_cons_succ, i64_w, i32_w]
                  rfl
                refine pure_ (i := 10) (N := some 22) (v := ?_) (a' := ?_) (bm 2047 16) rfl rfl (any_of HT_.out (by kernel_rfl)) (fun _ _ _ h => h) (Or.inl ⟨by rfl, ?_⟩) ?_ ?_
                rotate_left
                · intro w'
                  go_simp
                  with_reducible rfl
                rotate_left
                · simp only [Act.put, List.setIfInBounds_toArray, List.set_cons_zero, List.set_cons_succ, i64_w, i32_w]
                  rfl
                refine pure_ (i := 11) (N := some 23) (v := ?_) (a' := ?_) (bm 4095 16) rfl rfl (any_of HT_.out (by kernel_rfl)) (fun _ _ _ h => h) (Or.inl ⟨by rfl, ?_⟩) ?_ ?_
                rotate_left
                · intro w'
                  go_simp
                  with_reducible rfl
                rotate_left
                · simp only [Act.put, List.setIfInBounds_toArray, List.set_cons_zero, List.set_cons_succ, i64_w, i32_w]
                  rfl
                refine pure_ (i := 12) (N := some 24) (v := ?_) (a' := ?_) (bm 8191 16) rfl rfl (any_of HT_.out (by kernel_rfl)) (fun _ _ _ h => h) (Or.inl ⟨by rfl, ?_⟩) ?_ ?_
                rotate_left
                · intro w'
                  go_simp
                  with_reducible rfl
                rotate_left
                · simp only [Act.put, List.setIfInBounds_toArray, List.set_cons_zero, List.set_cons_succ, i64_w, i32_w]
                  rfl
                refine take_ (i := 13) (N := some 25) (v := ?_) (a' := ?_) (bm 16383 16) rfl rfl (take_ofW HT_.out HW_.out (by kernel_rfl)) (fun _ _ _ h => h) (Or.inl ⟨by rfl, ?_⟩) hHeld ?_ ?_
                rotate_left
                · rintro w' ⟨s0, s1, s2, s3, s4, s5⟩
                  go_simp
                  with_reducible rfl
                rotate_left
                · simp only [Act.put, List.setIfInBounds_toArray, List.set_cons_zero, List.set_cons_succ, i64_w, i32_w]
                  rfl
                refine one_ (i := 14) (N := some 26) (bm 32767 16) rfl rfl (one_of HT_.out (by kernel_rfl)) (by decide) (fun K hK => ?_)
                refine goes_ Try.func52 (by kernel_rfl) rfl #[.int .i64 ((rd_T84 l0 x9_1).f0), .int .i64 65, .int .i64 90] (by rfl) rfl rfl (by (try simp only [List.map_toArray, List.map_cons, List.map_nil]); first | done | rfl | (simp only [List.length_drop, List.length_take]; rfl)) ?_
                with_reducible refine (chanceryref1_In.calls ((rd_T84 l0 x9_1).f0) 65 90 false _ A9.out).mono ?_
                rintro e w' ⟨rfl, ⟨nd, rfl⟩⟩
                refine ⟨_, rfl, ?_⟩
                refine hK.out _ _ ⟨((HB.out.cell (World.block_lt_of_cell? w _ hw345_0)).trans hw345_0), ((HB.out.cell (World.block_lt_of_cell? w _ hw345_1)).trans hw345_1), ((HB.out.cell (World.block_lt_of_cell? w _ hw345_2)).trans hw345_2), ((HB.out.cell (World.block_lt_of_cell? w _ hw350_0)).trans hw350_0), ((HB.out.cell (World.block_lt_of_cell? w _ hw350_1)).trans hw350_1), ((HB.out.cell (World.block_lt_of_cell? w _ hw350_2)).trans hw350_2)⟩ (fun hHeld => ?_)
                clear hK K
                refine norm_ (a' := ?_) ?_ ?_
                rotate_left
                · show Act.put _ (some 26) _ = _
                  simp only [Act.put, List.setIfInBounds_toArray, List.set_cons_zero, List.set_cons_succ, i64_w, i32_w]
                  rfl
                refine pure_ (i := 15) (N := some 27) (v := ?_) (a' := ?_) (bm 65535 16) rfl rfl (any_of HT_.out (by kernel_rfl)) (fun _ _ _ h => h) (Or.inl ⟨by rfl, ?_⟩) ?_ ?_
                rotate_left
                · intro w'
                  go_simp
                  with_reducible rfl
                rotate_left
                · simp only [Act.put, List.setIfInBounds_toArray, List.set_cons_zero, List.set_cons_succ, i64_w, i32_w]
                  rfl
                refine done_ (done_of HT_.out (by kernel_rfl)) ?_
                try go_wp2
                go_roundg k1
                case measure => have := HK1.out; omega
                case rel => exact ⟨(x5_1), (wrap64 (x9_1 + 1)), (by first | rfl | (simp; done) | (simp [*]; done)), H', ⟨by have := HK1.out; omega⟩, ⟨by (with_reducible repeat (first | apply Kd.S_alloc | apply Kd.S_drewN | apply Kd.S_drew)); exact Kd.S_mono HO_5.out (fun _ hk => trivial)⟩, ⟨by repeat (first | (with_reducible first | exact HB.out | apply below_alloc | apply pw_below_drewN | apply below_drew1) | exact HB.out)⟩⟩
            · replace c8 := Bool.eq_false_iff.mpr c8
              subst c8
              have H1 : (chancerykeep1_with.l0 k1 l0 a1 x5_1 (l0.length : Int) (wrap64 (x9_1 + 1))) = some r := by rw [if_neg (show ¬ (false = true) by decide)] at H; exact H
              clear H
              have H := H1
              clear H1
              have H' := Aside0.mk H
              clear H
              try go_wp2
              have n0_ := Aside0.mk (Kd.S_drew HO_5.out)
              have n1_ := Aside0.mk (below_drew1 HB.out)
              clear HO_5
              clear HB
              have HO_5 := n0_
              have HB := n1_
              clear n0_ n1_
              have p345 : 0 ≤ (x9_1 : Int) := of_decide_eq_true (by first | (with_reducible assumption) | assumption)
              have q345 : x9_1 < (l0.length : Int) := of_decide_eq_true (by first | (with_reducible assumption) | assumption)
              obtain ⟨ad345, A345_2, c345_2, e345, hx345_0, hx345_1, hx345_2, hl345_2, hi345_2⟩ := at_T84 HR0.out x9_1 p345 q345
              have hw345_2 := hx345_2
              have hw345_1 := hx345_1
              have hw345_0 := hx345_0
              cases e345
              replace hx345_0 := (HB.out.cell (World.block_lt_of_cell? w _ hx345_0)).trans hx345_0
              replace hx345_1 := (HB.out.cell (World.block_lt_of_cell? w _ hx345_1)).trans hx345_1
              replace hx345_2 := (HB.out.cell (World.block_lt_of_cell? w _ hx345_2)).trans hx345_2
              have HR345_2 := Aside0.mk hi345_2
              have HC345_2 := Aside0.mk hl345_2
              clear hi345_2 hl345_2
              replace p345 := eq_true p345
              replace q345 := eq_true q345
              refine start_ (n := 16) (S := fun w' => w'.cell? (ad345.add ((x9_1).toNat * 3)) = some (.int .i64 ((rd_T84 l0 x9_1).f0)) ∧ w'.cell? ⟨(ad345.add ((x9_1).toNat * 3)).block, (ad345.add ((x9_1).toNat * 3)).off + 1, none⟩ = some (.int .i64 ((rd_T84 l0 x9_1).f1)) ∧ w'.cell? ⟨(ad345.add ((x9_1).toNat * 3)).block, (ad345.add ((x9_1).toNat * 3)).off + 2, none⟩ = some (.slice A345_2 ((rd_T84 l0 x9_1).f2).length c345_2)) (ds := []) #[false, false, false, false, false, false, false, false, false, false, false, false, false, false, false, false] (by kernel_rfl) rfl rfl ⟨((HB.out.cell (World.block_lt_of_cell? w _ hw345_0)).trans hw345_0), ((HB.out.cell (World.block_lt_of_cell? w _ hw345_1)).trans hw345_1), ((HB.out.cell (World.block_lt_of_cell? w _ hw345_2)).trans hw345_2)⟩ (fun hHeld => ?_); refine with_tabW chancerykeep1_with.tab5 chancerykeep1_with.bits5 (fun HT_ HW_ => ?_)
              generalize wr.drew = w19 at HO_5 HB HR345_2 hx345_0 hx345_1 hx345_2 hHeld ⊢
              refine pure_ (i := 0) (N := some 12) (v := ?_) (a' := ?_) (bm 1 16) rfl rfl (any_of HT_.out (by kernel_rfl)) (fun _ _ _ h => h) (Or.inl ⟨by rfl, ?_⟩) ?_ ?_
              rotate_left
              · intro w'
                go_simp
                with_reducible rfl
              rotate_left
              · simp only [Act.put, List.setIfInBounds_toArray, List.set_cons_zero, List.set_cons_succ, i64_w, i32_w]
                rfl
              refine pure_ (i := 1) (N := some 13) (v := ?_) (a' := ?_) (bm 3 16) rfl rfl (any_of HT_.out (by kernel_rfl)) (fun _ _ _ h => h) (Or.inl ⟨by rfl, ?_⟩) ?_ ?_
              rotate_left
              · intro w'
                go_simp
                with_reducible rfl
              rotate_left
              · simp only [Act.put, List.setIfInBounds_toArray, List.set_cons_zero, List.set_cons_succ, i64_w, i32_w]
                rfl
              refine pure_ (i := 2) (N := some 14) (v := ?_) (a' := ?_) (bm 7 16) rfl rfl (any_of HT_.out (by kernel_rfl)) (fun _ _ _ h => h) (Or.inl ⟨by rfl, ?_⟩) ?_ ?_
              rotate_left
              · intro w'
                go_simp
                with_reducible rfl
              rotate_left
              · simp only [Act.put, List.setIfInBounds_toArray, List.set_cons_zero, List.set_cons_succ, i64_w, i32_w]
                rfl
              refine pure_ (i := 3) (N := some 15) (v := ?_) (a' := ?_) (bm 15 16) rfl rfl (any_of HT_.out (by kernel_rfl)) (fun _ _ _ h => h) (Or.inl ⟨by rfl, ?_⟩) ?_ ?_
              rotate_left
              · intro w'
                go_simp
                with_reducible rfl
              rotate_left
              · simp only [Act.put, List.setIfInBounds_toArray, List.set_cons_zero, List.set_cons_succ, i64_w, i32_w]
                rfl
              refine pure_ (i := 5) (N := some 17) (v := ?_) (a' := ?_) (bm 47 16) rfl rfl (any_of HT_.out (by kernel_rfl)) (fun _ _ _ h => h) (Or.inl ⟨by rfl, ?_⟩) ?_ ?_
              rotate_left
              · intro w'
                go_simp
                with_reducible rfl
              rotate_left
              · simp only [Act.put, List.setIfInBounds_toArray, List.set_cons_zero, List.set_cons_succ, i64_w, i32_w]
                rfl
              refine take_ (i := 4) (N := some 16) (v := ?_) (a' := ?_) (bm 63 16) rfl rfl (take_ofW HT_.out HW_.out (by kernel_rfl)) (fun _ _ _ h => h) (Or.inl ⟨by rfl, ?_⟩) hHeld ?_ ?_
              rotate_left
              · rintro w' ⟨s0, s1, s2⟩
                go_simp
                with_reducible rfl
              rotate_left
              · simp only [Act.put, List.setIfInBounds_toArray, List.set_cons_zero, List.set_cons_succ, i64_w, i32_w]
                rfl
              refine one_ (i := 6) (N := some 18) (bm 127 16) rfl rfl (one_of HT_.out (by kernel_rfl)) (by decide) (fun K hK => ?_)
              refine goes_ Try.func83 (by kernel_rfl) rfl #[.string a1] (by rfl) rfl rfl (by (try simp only [List.map_toArray, List.map_cons, List.map_nil]); first | done | rfl | (simp only [List.length_drop, List.length_take]; rfl)) ?_
              with_reducible refine (chancerykeep1_on.calls a1 t346 _ A6.out).mono ?_
              rintro e w20 ⟨v347, rfl, ho0, hb⟩
              refine ⟨_, rfl, ?_⟩
              have n0_ := Aside0.mk (Kd.S_elder' (by (with_reducible repeat (first | apply Kd.S_alloc | apply Kd.S_drewN | apply Kd.S_drew)); exact HO_5.out) (Kd.R_base ho0) hb)
              have n1_ := Aside0.mk (Kd.R_lower ho0 (below_size (by with_reducible repeat first | exact HB.out | apply below_alloc | apply pw_below_drewN | apply below_drew1)))
              have n2_ := Aside0.mk (below_step (by with_reducible repeat first | exact HB.out | apply below_alloc | apply pw_below_drewN | apply below_drew1) hb)
              clear HO_5
              clear HB
              have HO_5 := n0_
              have HO348 := n1_
              have HB := n2_
              clear n0_ n1_ n2_
              (try clear hb)
              (try clear hb2)
              (try clear hk)
              (try clear hi)
              (try clear ho0)
              obtain ⟨Ao21, co21, eo21⟩ := Kd.R_slice HO348.out
              (first | subst eo21 | (injection eo21 with f1_ f2_ f3_; have f4_ := f1_.symm; have f5_ := f3_.symm; clear f1_ f2_ f3_; subst f4_; subst f5_))
              refine hK.out _ _ ⟨((HB.out.cell (World.block_lt_of_cell? w _ hw345_0)).trans hw345_0), ((HB.out.cell (World.block_lt_of_cell? w _ hw345_1)).trans hw345_1), ((HB.out.cell (World.block_lt_of_cell? w _ hw345_2)).trans hw345_2)⟩ (fun hHeld => ?_)
              clear hK K
              refine norm_ (a' := ?_) ?_ ?_
              rotate_left
              · show Act.put _ (some 18) _ = _
                simp only [Act.put, List.setIfInBounds_toArray, List.set_cons_zero, List.set_cons_succ, i64_w, i32_w]
                rfl
              refine one_ (i := 7) (N := some 19) (bm 255 16) rfl rfl (one_of HT_.out (by kernel_rfl)) (by decide) (fun K hK => ?_)
              refine goes_ Try.func25 (by kernel_rfl) rfl #[.slice A345_2 ((rd_T84 l0 x9_1).f2).length c345_2, .slice Ao21 t346.length co21] (by rfl) rfl rfl (by (try simp only [List.map_toArray, List.map_cons, List.map_nil]); first | done | rfl | (simp only [List.length_drop, List.length_take]; rfl)) ?_
              with_reducible refine (chanceryref1_SameAttrs.calls k1 _ _ ((rd_T84 l0 x9_1).f2) _ _ t346 false _ ?side1 ?side2 ?side3 ?side4 A7.out).mono ?_
              (case side1 => repeat (first | exact (Kd.C_below HR345_2.out HB.out) | (with_reducible refine Kd.C_alloc ?_ _) | (with_reducible refine Kd.C_drewN ?_ _) | (with_reducible refine Kd.C_drew ?_)))
              (case side2 => exact HC345_2.out)
              (case side3 => repeat (first | exact (Kd.R_reads' HO348.out).2.2 | (with_reducible refine Kd.C_alloc ?_ _) | (with_reducible refine Kd.C_drewN ?_ _) | (with_reducible refine Kd.C_drew ?_)))
              (case side4 => exact (Kd.R_reads' HO348.out).2.1)
              rintro e w' ⟨rfl, ⟨nd, rfl⟩⟩
              refine ⟨_, rfl, ?_⟩
              refine hK.out _ _ ⟨((HB.out.cell (World.block_lt_of_cell? w _ hw345_0)).trans hw345_0), ((HB.out.cell (World.block_lt_of_cell? w _ hw345_1)).trans hw345_1), ((HB.out.cell (World.block_lt_of_cell? w _ hw345_2)).trans hw345_2)⟩ (fun hHeld => ?_)
              clear hK K
              refine norm_ (a' := ?_) ?_ ?_
              rotate_left
              · show Act.put _ (some 19) _ = _
                simp only [Act.put, List.setIfInBounds_toArray, List.set_cons_zero, List.set_cons_succ, i64_w, i32_w]
                rfl
              refine pure_ (i := 8) (N := some 20) (v := ?_) (a' := ?_) (bm 511 16) rfl rfl (any_of HT_.out (by kernel_rfl)) (fun _ _ _ h => h) (Or.inl ⟨by rfl, ?_⟩) ?_ ?_
              rotate_left
              · intro w'
                go_simp
                with_reducible rfl
              rotate_left
              · simp only [Act.put, List.setIfInBounds_toArray, List.set_cons_zero, List.set_cons_succ, i64_w, i32_w]
                rfl
              refine pure_ (i := 9) (N := some 21) (v := undef) (a' := ?_) (bm 1023 16) rfl rfl (any_of HT_.out (by kernel_rfl)) (fun _ _ _ h => h) (Or.inr ⟨by rfl, rfl⟩) ?_ ?_
              rotate_left
              · simp only [Act.put, List.setIfInBounds_toArray, List.set_cons_zero, List.set_cons_succ, i64_w, i32_w]
                rfl
              refine pure_ (i := 10) (N := some 22) (v := undef) (a' := ?_) (bm 2047 16) rfl rfl (any_of HT_.out (by kernel_rfl)) (fun _ _ _ h => h) (Or.inr ⟨by rfl, rfl⟩) ?_ ?_
              rotate_left
              · simp only [Act.put, List.setIfInBounds_toArray, List.set_cons_zero, List.set_cons_succ, i64_w, i32_w]
                rfl
              refine pure_ (i := 11) (N := some 23) (v := undef) (a' := ?_) (bm 4095 16) rfl rfl (any_of HT_.out (by kernel_rfl)) (fun _ _ _ h => h) (Or.inr ⟨by rfl, rfl⟩) ?_ ?_
              rotate_left
              · simp only [Act.put, List.setIfInBounds_toArray, List.set_cons_zero, List.set_cons_succ, i64_w, i32_w]
                rfl
              refine pure_ (i := 12) (N := some 24) (v := undef) (a' := ?_) (bm 8191 16) rfl rfl (any_of HT_.out (by kernel_rfl)) (fun _ _ _ h => h) (Or.inr ⟨by rfl, rfl⟩) ?_ ?_
              rotate_left
              · simp only [Act.put, List.setIfInBounds_toArray, List.set_cons_zero, List.set_cons_succ, i64_w, i32_w]
                rfl
              refine pure_ (i := 13) (N := some 25) (v := undef) (a' := ?_) (bm 16383 16) rfl rfl (any_of HT_.out (by kernel_rfl)) (fun _ _ _ h => h) (Or.inr ⟨by rfl, rfl⟩) ?_ ?_
              rotate_left
              · simp only [Act.put, List.setIfInBounds_toArray, List.set_cons_zero, List.set_cons_succ, i64_w, i32_w]
                rfl
              refine pure_ (i := 14) (N := some 26) (v := undef) (a' := ?_) (bm 32767 16) rfl rfl (any_of HT_.out (by kernel_rfl)) (fun _ _ _ h => h) (Or.inr ⟨by rfl, rfl⟩) ?_ ?_
              rotate_left
              · simp only [Act.put, List.setIfInBounds_toArray, List.set_cons_zero, List.set_cons_succ, i64_w, i32_w]
                rfl
              refine pure_ (i := 15) (N := some 27) (v := ?_) (a' := ?_) (bm 65535 16) rfl rfl (any_of HT_.out (by kernel_rfl)) (fun _ _ _ h => h) (Or.inl ⟨by rfl, ?_⟩) ?_ ?_
              rotate_left
              · intro w'
                go_simp
                with_reducible rfl
              rotate_left
              · simp only [Act.put, List.setIfInBounds_toArray, List.set_cons_zero, List.set_cons_succ, i64_w, i32_w]
                rfl
              refine done_ (done_of HT_.out (by kernel_rfl)) ?_
              try go_wp2
              go_roundg k1
              case measure => have := HK1.out; omega
              case rel => exact ⟨(x5_1), (wrap64 (x9_1 + 1)), (by first | rfl | (simp; done) | (simp [*]; done)), H', ⟨by have := HK1.out; omega⟩, ⟨by (with_reducible repeat (first | apply Kd.S_alloc | apply Kd.S_drewN | apply Kd.S_drew)); exact Kd.S_mono HO_5.out (fun _ hk => trivial)⟩, ⟨by repeat (first | (with_reducible first | exact HB.out | apply below_alloc | apply pw_below_drewN | apply below_drew1) | exact HB.out)⟩⟩
          · rw [if_neg c5] at H
            exact absurd H (by simp)
        · rw [if_neg c4] at H
          exact absurd H (by simp)
      · rw [if_neg c3] at H
        have c3b0 : decide (x9_1 < (l0.length : Int)) = false := decide_eq_false c3
        clear c3
        obtain rfl := Option.some.inj H
        go_wp2
        go_ret
        exact ⟨_, by first | rfl | (simp [errW_none, errW_some] <;> rfl) | (simp [*, errW_none, errW_some] <;> rfl), by (with_reducible repeat (first | apply Kd.S_alloc | apply Kd.S_drewN | apply Kd.S_drew)); exact HO_5.out, by repeat (first | (with_reducible first | exact HB.out | apply below_alloc | apply pw_below_drewN | apply below_drew1) | exact HB.out)⟩
mutual
def chancerykeep1_added.l0 : Nat → List (S70) → List (S84) → Int → Int → Option ((List (S84)))
  | 0, _, _, _, _ => none
  | k + 1, x0, x3, x7, x8 => if x8 < x7 then (if 0 ≤ x8 then (if x8 < (x0.length : Int) then (chancerykeep1_added.l1 k x0 x3 x8 x7 x8 (((rd_T70 x0 x8).f3).length : Int) 0) else (none)) else (none)) else (some x3)
def chancerykeep1_added.l1 : Nat → List (S70) → List (S84) → Int → Int → Int → Int → Int → Option ((List (S84)))
  | 0, _, _, _, _, _, _, _ => none
  | k + 1, x0, x3, x4, x7, x8, x16, x17 => if x17 < x16 then (if 0 ≤ x4 then (if x4 < (x0.length : Int) then (if 0 ≤ x17 then (if x17 < (((rd_T70 x0 x4).f3).length : Int) then (if x3.length < 3518437208883 then (chancerykeep1_added.l1 k x0 (x3 ++ [(⟨(rd_T84 ((rd_T70 x0 x4).f3) x17).f0, 0, ([] : List (S38))⟩ : S84)]) x4 x7 x8 x16 (wrap64 (x17 + 1))) else (none)) else (none)) else (none)) else (none)) else (none)) else (chancerykeep1_added.l0 k x0 x3 x7 (wrap64 (x8 + 1)))
end
def chancerykeep1_added.f (k : Nat) (l0 : List (S70)) : Option ((List (S84))) := chancerykeep1_added.l0 k l0 ([] : List (S84)) (l0.length : Int) 0
set_option maxHeartbeats 8000000 in
set_option maxRecDepth 100000 in
theorem chancerykeep1_added.calls (k : Nat) (A0 : Option Addr) (c0 : Nat) (l0 : List (S70)) (r : List (S84)) (w : World) (hr0 : Kd.C k70 w A0 l0.length l0) (hc0 : l0.length ≤ c0) (h : chancerykeep1_added.f k l0 = some r) :
    Calls Try.prog 55 #[.slice A0 l0.length c0] w fun e w' => ∃ v0_ : Value, e = .returned (v0_) ∧ Kd.S k84 84 w' w.heap.size (fun _ => True) v0_ r ∧ Below w.heap.size w w' := by
  have hu84 := Try.underlying84
  have HR0 := Aside0.mk hr0
  have HC0 := Aside0.mk hc0
  clear hr0 hc0
  have HB := Aside0.mk (Below.refl w.heap.size w)
  have H : (chancerykeep1_added.l0 k l0 ([] : List (S84)) (l0.length : Int) 0) = some r := h
  clear h
  have H' := Aside0.mk H
  clear H
  go_enter Try.func55, Try.ntmps55
  go_wp2
  go_loopg [3, 8] k (fun kq v3 v8 w' => ∃ (x3_1 : List (S84)) (x8_1 : Int), v8 = .int .i64 x8_1 ∧ Aside0 (chancerykeep1_added.l0 kq l0 x3_1 (l0.length : Int) x8_1 = some r) ∧ Aside0 (kq ≤ k) ∧ Aside0 (Kd.S k84 84 w' w.heap.size (fun _ => True) v3 x3_1) ∧ Aside0 (Below w.heap.size w w'))
  case atStart => exact ⟨(([] : List (S84))), (0), (by first | rfl | (simp; done) | (simp [*]; done)), H', ⟨Nat.le_refl _⟩, ⟨by first | exact Kd.S_nil _ _ _ _ _ | exact Kd.N_nil _ _ _ _ _ | exact Kd.V_nil _ _ _ _ _ | exact Kd.Q_nil _ _ _ _ _ | exact Kd.R_nil _ _ _ _ _⟩, ⟨by repeat (first | (with_reducible first | exact HB.out | apply below_alloc | apply pw_below_drewN | apply below_drew1) | exact HB.out)⟩⟩
  case round =>
    clear H'
    try clear p1
    obtain ⟨x3_1, x8_1, rfl, HA, HK1, HO_3, HB⟩ := hrel
    cases gk with
    | zero => exact absurd HA.out (by simp [chancerykeep1_added.l0])
    | succ k1 =>
      have H := HA.out
      clear HA
      simp only [chancerykeep1_added.l0] at H
      by_cases c2 : x8_1 < (l0.length : Int)
      · rw [if_pos c2] at H
        have c2b0 : decide (x8_1 < (l0.length : Int)) = true := decide_eq_true c2
        clear c2
        by_cases c3 : 0 ≤ x8_1
        · rw [if_pos c3] at H
          have c3b0 : decide (0 ≤ x8_1) = true := decide_eq_true c3
          clear c3
          by_cases c4 : x8_1 < (l0.length : Int)
          · rw [if_pos c4] at H
            have c4b0 : decide (x8_1 < (l0.length : Int)) = true := decide_eq_true c4
            clear c4
            have H' := Aside0.mk H
            clear H
            have p356 : 0 ≤ (x8_1 : Int) := of_decide_eq_true (by first | (with_reducible assumption) | assumption)
            have q356 : x8_1 < (l0.length : Int) := of_decide_eq_true (by first | (with_reducible assumption) | assumption)
            obtain ⟨ad356, A356_2, c356_2, A356_3, c356_3, e356, hx356_0, hx356_1, hx356_2, hx356_3, hl356_2, hi356_2, hl356_3, hi356_3⟩ := at_T70 HR0.out x8_1 p356 q356
            cases e356
            replace hx356_0 := (HB.out.cell (World.block_lt_of_cell? w _ hx356_0)).trans hx356_0
            replace hx356_1 := (HB.out.cell (World.block_lt_of_cell? w _ hx356_1)).trans hx356_1
            replace hx356_2 := (HB.out.cell (World.block_lt_of_cell? w _ hx356_2)).trans hx356_2
            replace hx356_3 := (HB.out.cell (World.block_lt_of_cell? w _ hx356_3)).trans hx356_3
            have HR356_2 := Aside0.mk hi356_2
            have HC356_2 := Aside0.mk hl356_2
            clear hi356_2 hl356_2
            have HR356_3 := Aside0.mk hi356_3
            have HC356_3 := Aside0.mk hl356_3
            clear hi356_3 hl356_3
            replace p356 := eq_true p356
            replace q356 := eq_true q356
            go_wp2
            go_loopg [3, 17] k1 (fun kq v3 v17 w' => ∃ (x3_2 : List (S84)) (x17_2 : Int), v17 = .int .i64 x17_2 ∧ Aside0 (chancerykeep1_added.l1 kq l0 x3_2 x8_1 (l0.length : Int) x8_1 (((rd_T70 l0 x8_1).f3).length : Int) x17_2 = some r) ∧ Aside0 (kq ≤ k1) ∧ Aside0 (Kd.S k84 84 w' w.heap.size (fun _ => True) v3 x3_2) ∧ Aside0 (Below w.heap.size w w'))
            case atStart => exact ⟨(x3_1), (0), (by first | rfl | (simp; done) | (simp [*]; done)), H', ⟨Nat.le_refl _⟩, ⟨by (with_reducible repeat (first | apply Kd.S_alloc | apply Kd.S_drewN | apply Kd.S_drew)); exact HO_3.out⟩, ⟨by repeat (first | (with_reducible first | exact HB.out | apply below_alloc | apply pw_below_drewN | apply below_drew1) | exact HB.out)⟩⟩
            case round =>
              clear H'
              try clear p1
              try clear c2
              try clear c2b0
              try clear p2
              try clear c3
              try clear c3b0
              try clear p3
              try clear q3
              try clear hx3
              try clear c4
              try clear c4b0
              try clear hx356_0
              try clear hx356_1
              try clear hx356_2
              try clear hx356_3
              try clear p1
              try clear p356
              try clear q356
              obtain ⟨x3_2, x17_2, rfl, HA, HK2, HO_3, HB⟩ := hrel
              cases gk with
              | zero => exact absurd HA.out (by simp [chancerykeep1_added.l1])
              | succ k2 =>
                have H := HA.out
                clear HA
                simp only [chancerykeep1_added.l1] at H
                by_cases c5 : x17_2 < (((rd_T70 l0 x8_1).f3).length : Int)
                · rw [if_pos c5] at H
                  have c5b0 : decide (x17_2 < (((rd_T70 l0 x8_1).f3).length : Int)) = true := decide_eq_true c5
                  clear c5
                  by_cases c6 : 0 ≤ x8_1
                  · rw [if_pos c6] at H
                    have c6b0 : decide (0 ≤ x8_1) = true := decide_eq_true c6
                    clear c6
                    by_cases c7 : x8_1 < (l0.length : Int)
                    · rw [if_pos c7] at H
                      have c7b0 : decide (x8_1 < (l0.length : Int)) = true := decide_eq_true c7
                      clear c7
                      by_cases c8 : 0 ≤ x17_2
                      · rw [if_pos c8] at H
                        have c8b0 : decide (0 ≤ x17_2) = true := decide_eq_true c8
                        clear c8
                        by_cases c9 : x17_2 < (((rd_T70 l0 x8_1).f3).length : Int)
                        · rw [if_pos c9] at H
                          have c9b0 : decide (x17_2 < (((rd_T70 l0 x8_1).f3).length : Int)) = true := decide_eq_true c9
                          clear c9
                          by_cases c10 : x3_2.length < 3518437208883
                          · rw [if_pos c10] at H
                            have LMc10 := Aside0.mk c10
                            clear c10
                            obtain ⟨y359, hy359⟩ : ∃ y_ : List (S84), y_ = (x3_2 ++ [(⟨(rd_T84 ((rd_T70 l0 x8_1).f3) x17_2).f0, 0, ([] : List (S38))⟩ : S84)]) := ⟨_, rfl⟩
                            replace H : (chancerykeep1_added.l1 k2 l0 y359 x8_1 (l0.length : Int) x8_1 (((rd_T70 l0 x8_1).f3).length : Int) (wrap64 (x17_2 + 1))) = some r := by first | (rw [hy359]; with_reducible exact H) | (have H2_ := (Option.bind_some _ _).symm.trans H; rw [hy359]; with_reducible exact H2_) | (have H2_ := (Option.bind_some _ _).symm.trans H; with_reducible exact H2_) | with_reducible exact H | (rw [hy359]; exact H) | exact H
                            have Ny359 := Aside0.mk hy359
                            clear hy359
                            have H' := Aside0.mk H
                            clear H
                            have p357 : 0 ≤ (x8_1 : Int) := of_decide_eq_true (by first | (with_reducible assumption) | assumption)
                            have q357 : x8_1 < (l0.length : Int) := of_decide_eq_true (by first | (with_reducible assumption) | assumption)
                            obtain ⟨ad357, A357_2, c357_2, A357_3, c357_3, e357, hx357_0, hx357_1, hx357_2, hx357_3, hl357_2, hi357_2, hl357_3, hi357_3⟩ := at_T70 HR0.out x8_1 p357 q357
                            obtain rfl : ad356 = ad357 := (by injection e357)
                            replace hx357_0 := (HB.out.cell (World.block_lt_of_cell? w _ hx357_0)).trans hx357_0
                            replace hx357_1 := (HB.out.cell (World.block_lt_of_cell? w _ hx357_1)).trans hx357_1
                            replace hx357_2 := (HB.out.cell (World.block_lt_of_cell? w _ hx357_2)).trans hx357_2
                            replace hx357_3 := (HB.out.cell (World.block_lt_of_cell? w _ hx357_3)).trans hx357_3
                            have HR357_2 := Aside0.mk hi357_2
                            have HC357_2 := Aside0.mk hl357_2
                            clear hi357_2 hl357_2
                            have HR357_3 := Aside0.mk hi357_3
                            have HC357_3 := Aside0.mk hl357_3
                            clear hi357_3 hl357_3
                            replace p357 := eq_true p357
                            replace q357 := eq_true q357
                            have p358 : 0 ≤ (x17_2 : Int) := of_decide_eq_true (by first | (with_reducible assumption) | assumption)
                            have q358 : x17_2 < (((rd_T70 l0 x8_1).f3).length : Int) := of_decide_eq_true (by first | (with_reducible assumption) | assumption)
                            obtain ⟨ad358, A358_2, c358_2, e358, hx358_0, hx358_1, hx358_2, hl358_2, hi358_2⟩ := at_T84 HR357_3.out x17_2 p358 q358
                            cases e358
                            replace hx358_0 := (HB.out.cell (World.block_lt_of_cell? w _ hx358_0)).trans hx358_0
                            replace hx358_1 := (HB.out.cell (World.block_lt_of_cell? w _ hx358_1)).trans hx358_1
                            replace hx358_2 := (HB.out.cell (World.block_lt_of_cell? w _ hx358_2)).trans hx358_2
                            have HR358_2 := Aside0.mk hi358_2
                            have HC358_2 := Aside0.mk hl358_2
                            clear hi358_2 hl358_2
                            replace p358 := eq_true p358
                            replace q358 := eq_true q358
                            go_wp2_with (first | ((with_reducible refine gate_builtin (b := .append) (xs := #[.tmp 20, .tmp 31]) rfl ?_); at_builtin; refine Kd.S_append k84 (w0 := w) w.heap.size rfl (.tmp 20) (.tmp 31) 63 84 (.agg #[(.int .i64 0), (.int .i64 0), (.slice none 0 0)]) 40 rfl Try.underlying63 info84 rfl (by decide) (by omega) u3 x3_2 (⟨(rd_T84 ((rd_T70 l0 x8_1).f3) x17_2).f0, 0, ([] : List (S38))⟩ : S84) [.int .i64 ((rd_T84 ((rd_T70 l0 x8_1).f3) x17_2).f0), .int .i64 0, .slice none 0 0] (fun _ => True) (fun _ => False) rfl rfl ?aP (fun k_ hk_ => hk_.elim) ?aF ?aO ?aB ?aS ?aL ?_; (case aP => exact k84_mkM _ _ _ (⟨(rd_T84 ((rd_T70 l0 x8_1).f3) x17_2).f0, 0, ([] : List (S38))⟩ : S84) (Kd.R_nil _ _ _ _ _)); (case aB => exact (by with_reducible repeat first | exact HB.out | apply below_alloc | apply pw_below_drewN | apply below_drew1)); (case aF => exact (fun _ _ => trivial)); (case aO => exact (by (with_reducible repeat (first | apply Kd.S_alloc | apply Kd.S_drewN | apply Kd.S_drew)); exact Kd.S_mono HO_3.out (fun k_ hk => ⟨trivial, fun e_ => e_⟩))); (case aS => exact (below_size (by with_reducible repeat first | exact HB.out | apply below_alloc | apply pw_below_drewN | apply below_drew1))); (case aL => have := LMc10.out; omega); intro v360 w11 ho hb hg hat; rw [← Ny359.out] at ho; have n0_ := Aside0.mk (hb); have n1_ := Aside0.mk (ho); clear HB; clear HO_3; have HB := n0_; have HO361 := n1_; clear n0_ n1_; clear ho hb hg hat))
                            go_roundg k2
                            case measure => have := HK1.out; have := HK2.out; omega
                            case rel => exact ⟨(y359), (wrap64 (x17_2 + 1)), (by first | rfl | (simp; done) | (simp [*]; done)), H', ⟨by have := HK1.out; have := HK2.out; omega⟩, ⟨by (with_reducible repeat (first | apply Kd.S_alloc | apply Kd.S_drewN | apply Kd.S_drew)); exact HO361.out⟩, ⟨by repeat (first | (with_reducible first | exact HB.out | apply below_alloc | apply pw_below_drewN | apply below_drew1) | exact HB.out)⟩⟩
                          · rw [if_neg c10] at H
                            exact absurd H (by simp)
                        · rw [if_neg c9] at H
                          exact absurd H (by simp)
                      · rw [if_neg c8] at H
                        exact absurd H (by simp)
                    · rw [if_neg c7] at H
                      exact absurd H (by simp)
                  · rw [if_neg c6] at H
                    exact absurd H (by simp)
                · rw [if_neg c5] at H
                  have c5b0 : decide (x17_2 < (((rd_T70 l0 x8_1).f3).length : Int)) = false := decide_eq_false c5
                  clear c5
                  have H' := Aside0.mk H
                  clear H
                  go_wp2
                  go_roundg k2
                  case measure => have := HK1.out; have := HK2.out; omega
                  case rel => exact ⟨(x3_2), (wrap64 (x8_1 + 1)), (by first | rfl | (simp; done) | (simp [*]; done)), H', ⟨by have := HK1.out; have := HK2.out; omega⟩, ⟨by (with_reducible repeat (first | apply Kd.S_alloc | apply Kd.S_drewN | apply Kd.S_drew)); exact HO_3.out⟩, ⟨by repeat (first | (with_reducible first | exact HB.out | apply below_alloc | apply pw_below_drewN | apply below_drew1) | exact HB.out)⟩⟩
          · rw [if_neg c4] at H
            exact absurd H (by simp)
        · rw [if_neg c3] at H
          exact absurd H (by simp)
      · rw [if_neg c2] at H
        have c2b0 : decide (x8_1 < (l0.length : Int)) = false := decide_eq_false c2
        clear c2
        obtain rfl := Option.some.inj H
        go_wp2
        go_ret
        exact ⟨_, by first | rfl | (simp [errW_none, errW_some] <;> rfl) | (simp [*, errW_none, errW_some] <;> rfl), by (with_reducible repeat (first | apply Kd.S_alloc | apply Kd.S_drewN | apply Kd.S_drew)); exact HO_3.out, by repeat (first | (with_reducible first | exact HB.out | apply below_alloc | apply pw_below_drewN | apply below_drew1) | exact HB.out)⟩
end Go.Proofs.Ytdgemabmmomebaa.PDelta
end
section
namespace Go.Proofs.Ytdgemabmmomebaa.PDelta
open Go.RowKit Go.Proofs.YtdgemabmmomebaaW.PrintWords Go.Proofs.YtdgemabmmomebaaW.PrintLast Go.Proofs.YtdgemabmmomebaaW.PrintMore
theorem one_ok : NmOK (⟨#[111, 110, 101]⟩ : ByteArray) := by
  have hs : (⟨#[111, 110, 101]⟩ : ByteArray).size = 3 := rfl
  refine ⟨⟨by decide, by decide, fun i h0 h1 => ?_⟩, ⟨by decide, by decide, fun i h0 h1 => ?_⟩, by decide +kernel⟩
  · rcases (show i = 0 ∨ i = 1 ∨ i = 2 by omega) with rfl | rfl | rfl <;> exact .inl (by decide)
  · rcases (show i = 0 ∨ i = 1 ∨ i = 2 by omega) with rfl | rfl | rfl <;> decide
theorem two_ok : NmOK (⟨#[116, 119, 111]⟩ : ByteArray) := by
  have hs : (⟨#[116, 119, 111]⟩ : ByteArray).size = 3 := rfl
  refine ⟨⟨by decide, by decide, fun i h0 h1 => ?_⟩, ⟨by decide, by decide, fun i h0 h1 => ?_⟩, by decide +kernel⟩
  · rcases (show i = 0 ∨ i = 1 ∨ i = 2 by omega) with rfl | rfl | rfl <;> exact .inl (by decide)
  · rcases (show i = 0 ∨ i = 1 ∨ i = 2 by omega) with rfl | rfl | rfl <;> decide
theorem rp_of {A n : Nat} {d : List S70} (h : FO A d) (hl : (units d).length ≤ 1073741824) : RP A d 0 :=
  ⟨fun x hx => ⟨h.ok x hx, h.att x hx, Nat.le_trans (units_mem h.ok x hx) hl⟩, fun x p e => us_pos (h.ok x (by rw [e]; exact List.mem_cons_self))⟩
end Go.Proofs.Ytdgemabmmomebaa.PDelta
end
section
namespace Go.Proofs.Ytdgemabmmomebaa.PDelta
open Go.RowKit Go.Proofs.YtdgemabmmomebaaW.PrintWords Go.Proofs.YtdgemabmmomebaaW.PrintLast Go.Proofs.YtdgemabmmomebaaW.PrintMore
end Go.Proofs.Ytdgemabmmomebaa.PDelta
end
section
namespace Go.Proofs.Ytdgemabmmomebaa.PDelta
open Go.RowKit Go.Proofs.YtdgemabmmomebaaW.PrintWords Go.Proofs.YtdgemabmmomebaaW.PrintLast Go.Proofs.YtdgemabmmomebaaW.PrintMore
section
variable {wB wr w1 : World} {gb : Nat} {x : S70} {A2 A3 : Option Addr} {c2 c3 : Nat} {out out' : List S70} {v v1 : Value}
end
theorem drop_set_lt {α : Type} (l : List α) (i : Nat) (x : α) : (l.set i x).drop (i + 1) = l.drop (i + 1) := by
  rw [List.drop_set]; simp
theorem low_step {xs : List S84} {i : Nat} {x y : S84} {F : List S84} {lowC : S84 → S84} (hi : i < xs.length) (hd : xs.drop i = x :: xs.drop (i + 1)) (hy : lowC x = y) (h : F = xs.take i ++ (xs.drop i).map lowC) : F = (xs.set i y).take (i + 1) ++ ((xs.set i y).drop (i + 1)).map lowC := by
  rw [drop_set_lt, h, hd, List.map_cons, hy, List.take_set, List.take_add_one, List.getElem?_eq_getElem hi, Option.toList_some, List.set_append_right _ _ (by rw [List.length_take]; omega), List.length_take, Nat.min_eq_left (Nat.le_of_lt hi), Nat.sub_self, List.set_cons_zero, List.append_assoc]
  rfl
theorem add_g (g n : Nat) : (⟨g, 0, none⟩ : Addr).add n = ⟨g, n, none⟩ := by
  unfold Addr.add
  by_cases h : n = 0
  · subst h; simp
  · simp [h]
def lowC (x : S84) : S84 := if 65 ≤ x.f0 ∧ x.f0 ≤ 90 then ⟨x.f0 + 32, x.f1, x.f2⟩ else x
structure PairCore (k : Nat) (f : List S84) (p q : List Int) (d1 d2 : List S70) (g h lm : List S84) (o1 o2 : List S70) (m : Nat) (n0 n1 n2 : Int) (z1 z2 : List S84) : Prop where
  one : changeF k (f.length : Int) p (⟨#[111, 110, 101]⟩ : ByteArray) = some d1
  two : changeF k (f.length : Int) q (⟨#[116, 119, 111]⟩ : ByteArray) = some d2
  goes : delta_Apply.f k f d1 = some (g, 0)
  goes2 : delta_Apply.f k f d2 = some (h, 0)
  c1 : delta_Check.f k d1 = some 0
  c2 : delta_Check.f k d2 = some 0
  l1 : delta_lengths.f k d1 = some (n0, n1)
  l2 : delta_lengths.f k d2 = some (n0, n2)
  pair : pairF k m d1 0 d2 0 ⟨[], [], 0⟩ ⟨[], [], 0⟩ = some ((o1, 0), (o2, 0))
  left : delta_Apply.f k g o2 = some (lm, 0)
  right : delta_Apply.f k h o1 = some (lm, 0)
  same : chanceryref1_SameFlow.f k lm lm = some true
  w1 : chancerykeep1_with.f k lm (⟨#[111, 110, 101]⟩ : ByteArray) = some z1
  w2 : chancerykeep1_with.f k lm (⟨#[116, 119, 111]⟩ : ByteArray) = some z2
  a1 : chancerykeep1_added.f k d1 = some z1
  a2 : chancerykeep1_added.f k d2 = some z2
  s1 : chanceryref1_SameFlow.f k z1 z1 = some true
  s2 : chanceryref1_SameFlow.f k z2 z2 = some true
def PairAt (k : Nat) (f : List S84) (p q : List Int) : Prop :=
  ∃ e, chanceryref1_PartError.f k (cut40 f) = some e ∧ (e ≠ 0 ∨ e = 0 ∧ ∃ F, F = (cut40 f).map lowC ∧ ∃ d1 d2 g h lm o1 o2 m n0 n1 n2 z1 z2, (∀ x ∈ cut40 f, 0 ≤ x.f0 ∧ x.f0 ≤ 1114111) ∧ PairCore k F p q d1 d2 g h lm o1 o2 m n0 n1 n2 z1 z2)
set_option maxRecDepth 100000 in
set_option maxHeartbeats 4000000 in
theorem pairLaw_calls (k : Nat) (A0 : Option Addr) (c0 : Nat) (f : List S84) (A1 : Option Addr) (c1 : Nat) (p : List Int) (A2 : Option Addr) (c2 : Nat) (q : List Int) (w : World) (hr0 : Kd.C k84 w A0 f.length f) (hc0 : f.length ≤ c0) (hr1 : Kd.C (Kd.int .i64) w A1 p.length p) (hc1 : p.length ≤ c1) (hr2 : Kd.C (Kd.int .i64) w A2 q.length q) (hc2 : q.length ≤ c2) (h : PairAt k f p q) :
    Calls Try.prog 13 #[.slice A0 f.length c0, .slice A1 p.length c1, .slice A2 q.length c2] w fun e w' => e = .returned (.bool true) ∧ Below w.heap.size w w' := by
  have hu70 := Try.underlying70
  have hu84 := Try.underlying84
  have HR0 := Aside0.mk hr0
  have HC0 := Aside0.mk hc0
  have HR1 := Aside0.mk hr1
  have HC1 := Aside0.mk hc1
  have HR2 := Aside0.mk hr2
  have HC2 := Aside0.mk hc2
  clear hr0 hc0 hr1 hc1 hr2 hc2
  obtain ⟨e, he, h⟩ := h
  have HE := Aside0.mk he
  have H := Aside0.mk h
  clear he h
  obtain ⟨ta, hta⟩ : ∃ t : Bool, decide ((40 : Int) < (f.length : Int)) = t := ⟨_, rfl⟩
  have hta2 : decide (40 < f.length) = ta := by rw [← hta]; exact decide_eq_decide.mpr (by omega)
  go_enter Try.func13, Try.ntmps13
  go_upto_if 25 with (go_at_call 41; (with_reducible refine (deltas_calls _).mono ?_); rintro e1 w1 ⟨rfl, hb⟩; have HB1 := Aside0.mk hb; clear hb)
  go_cut [0] (fun v0 wx => Aside0 (v0 = .slice A0 (cut40 f).length c0) ∧ Aside0 (Below w.heap.size w wx))
  case first =>
    cases ta with
    | true =>
      have hl := of_decide_eq_true hta2
      have HE61 := Aside0.mk (show (cut40 f).length = 40 by unfold cut40; rw [if_pos hl, List.length_take]; omega)
      have s1 : (40 : Int) ≤ (c0 : Int) := by have := HC0.out; omega
      have s1' : (40 : Nat) ≤ c0 := by omega
      have s2 : decide ((40 : Int) ≤ (c0 : Int)) = true := decide_eq_true s1
      have s2' : decide (40 ≤ c0) = true := decide_eq_true s1'
      clear hl hta hta2
      go_wp2
      go_meet
      case rel => exact ⟨⟨by rw [HE61.out]⟩, HB1⟩
    | false =>
      have hl := of_decide_eq_false hta2
      have HE61 := Aside0.mk (show cut40 f = f from if_neg hl)
      clear hl hta hta2
      go_wp2
      go_meet
      case rel => exact ⟨⟨by rw [HE61.out]⟩, HB1⟩
  case rest =>
  clear hta hta2
  obtain ⟨hv0, HB2⟩ := hcut
  have hv0' := hv0.out
  subst hv0'
  clear hv0 HB1
  have HF : Aside0 (Kd.C k84 w A0 (cut40 f).length (cut40 f) ∧ (cut40 f).length ≤ c0) := ⟨by
    have := HC0.out
    unfold cut40
    split
    · exact ⟨Kd.C_take HR0.out (by omega), by rw [List.length_take]; omega⟩
    · exact ⟨HR0.out, this⟩⟩
  have hl40 : (cut40 f).length ≤ 40 := by
    unfold cut40
    split
    · rw [List.length_take]; omega
    · omega
  obtain ⟨f', hf'⟩ : ∃ f', f' = cut40 f := ⟨_, rfl⟩
  rw [← hf'] at hl40
  have HL40 := Aside0.mk hl40
  clear hl40
  rw [← hf'] at HF HE H
  rw [← hf']
  clear hf' HR0 HC0
  rcases H.out with h0 | ⟨h0, F, hF, d1, d2, g, h, lm, o1, o2, m, n0, n1, n2, z1, z2, hch, hd⟩
  · have h0b : (e != 0) = true := bne_iff_ne.mpr h0
    clear h0 H
    go_wp2_with (go_at_call 42; (with_reducible refine (chanceryref1_PartError.calls k _ _ f' e _ (Kd.C_below HF.out.1 HB2.out) HF.out.2 HE.out).mono ?_); rintro e1 w2 ⟨rfl, hb⟩; have HB3 := Aside0.mk (below_step HB2.out hb); clear hb)
    first | go_ret | go_ret2
    exact ⟨rfl, HB3.out⟩
  have h0b : (e != 0) = false := by simpa using h0
  have HD := Aside0.mk hd
  have HCH := Aside0.mk hch
  have HFF := Aside0.mk hF
  clear h0 H hd hch hF
  go_upto_region 7 with (go_at_call 42; (with_reducible refine (chanceryref1_PartError.calls k _ _ f' e _ (Kd.C_below HF.out.1 HB2.out) HF.out.2 HE.out).mono ?_); rintro e1 w2 ⟨rfl, hb⟩; have HB3 := Aside0.mk (below_step HB2.out hb); clear hb)
  go_upto_region 8 with (first
    | ((with_reducible refine gate_dst (N := 31) rfl ?_); refine Kd.N_lit k84 (w0 := w2) w2.heap.size 84 ?hg (N' := 31) ?hd (xs := []) (inner := []) (ok := fun _ => True) (okp := fun _ => False) ?hr ?hp (fun _ hk => hk.elim) trivial (Below.refl _ _) (Nat.le_refl _) (by simp) ?_; (case hd => rfl); (case hg => rfl); (case hr => first | (go_simp; done) | (go_simp; rfl)); (case hp => exact Reps.none _ _); intro v3 w3 hN3 hb3 hg3 hat3; have HN3 := Aside0.mk hN3; have HB31 := Aside0.mk hb3; have HAT3 := Aside0.mk hat3; clear hN3 hb3 hg3 hat3)
    | ((with_reducible refine gate_builtin (b := .append) (xs := #[.tmp 31, .tmp 32]) rfl ?_); at_builtin; refine Kd.N_append_rows k84 (w0 := w2) w2.heap.size ?hg (.tmp 31) (.tmp 32) 63 84 (.agg #[.int .i64 0, .int .i64 0, .slice none 0 0]) 40 rfl Try.underlying63 info84 rfl (by decide) (by decide) v3 [] f' A0 f'.length c0 (fun _ => True) (fun k => k < w2.heap.size) (by rfl) (by rfl) HN3.out ?aF ?ap (fun _ _ => trivial) HB31.out HB31.out.size ?al ?_; (case hg => rfl); (case aF => exact Kd.F_step (Kd.C_F k84_heap (Kd.C_below HF.out.1 HB3.out)) (fun k hk _ => HB31.out.block k hk)); (case ap => exact fun k hk => ⟨trivial, fun e => by obtain ⟨b, hb1, hb2⟩ := HAT3.out; rw [hb1] at e; injection e with e; omega⟩); (case al => have := HL40.out; simp only [List.length_nil]; omega); intro v4 w4 hN4 hb4 hg4 hat4; rw [List.nil_append] at hN4; obtain ⟨A4, n4, h4⟩ := Kd.N_slice hN4; subst h4; have HN4 := Aside0.mk hN4; have HB4 := Aside0.mk hb4; clear hN4 hb4 hg4 hat4))
  go_wp2
  clear HN3 HB31 HAT3
  have HI0 := Aside0.mk (show F = f'.take 0 ++ (f'.drop 0).map lowC by rw [HFF.out]; simp)
  go_loopg [36] f'.length (fun m v36 wr => ∃ (i : Nat) (xs : List S84), v36 = .int .i64 (i : Int) ∧ Aside0 (m + i = f'.length) ∧ Aside0 (xs.length = f'.length ∧ F = xs.take i ++ (xs.drop i).map lowC ∧ ∀ x ∈ xs.drop i, 0 ≤ x.f0 ∧ x.f0 ≤ 1114111) ∧ Aside0 (Kd.N k84 84 wr w2.heap.size (fun _ => True) (.slice A4 f'.length n4) xs ∧ Below w2.heap.size w2 wr))
  case atStart => exact ⟨0, f', rfl, ⟨rfl⟩, ⟨rfl, HI0.out, HCH.out⟩, ⟨HN4.out, HB4.out⟩⟩
  case round =>
    clear HI0 HN4 HB4
    obtain ⟨i, xs, rfl, HI, HX, HN⟩ := hrel
    by_cases d2 : i < f'.length
    rotate_left
    · have g1 : decide ((i : Int) < (f'.length : Int)) = false := decide_eq_false (by omega)
      have g1' : decide (i < f'.length) = false := decide_eq_false d2
      have hxs : F = xs := by rw [HX.out.2.1, List.take_of_length_le (by rw [HX.out.1]; omega), List.drop_eq_nil_of_le (by rw [HX.out.1]; omega)]; simp
      have hFl : f'.length = F.length := by rw [hxs, HX.out.1]
      rw [← hxs] at HN
      rw [hFl] at HN g1 g1' ⊢
      clear d2 HX hFl hxs
      go_upto_region 14 with (fail)
      obtain ⟨X4, hX4⟩ : ∃ X4, X4 = A4 := ⟨_, rfl⟩
      rw [← hX4] at HN ⊢
      clear hX4
      have HX4 := Aside0.mk (And.intro (Kd.N_reads' HN.out.1).2.2 (Kd.N_reads' HN.out.1).2.1)
      have HB := Aside0.mk (below_step HB3.out HN.out.2)
      clear HN HB2 HB3 HF
      go_upto_region 15 with (first | (go_at_call 43; (with_reducible refine (change_calls k (F.length : Int) A1 c1 p (⟨#[111, 110, 101]⟩ : ByteArray) d1 _ (Kd.C_below HR1.out HB.out) HC1.out HD.out.one).mono ?_); rintro e1 w5 ⟨v_, rfl, hR, hb⟩; obtain ⟨D1, mD1, rfl⟩ := Kd.N_slice hR; replace HX4 := Aside0.mk (And.intro (Kd.C_below HX4.out.1 hb) HX4.out.2); replace HB := Aside0.mk (below_step HB.out hb); have HD1 := Aside0.mk (And.intro (Kd.N_reads' hR).2.2 (Kd.N_reads' hR).2.1); clear hR hb) | (go_at_call 43; (with_reducible refine (change_calls k (F.length : Int) A2 c2 q (⟨#[116, 119, 111]⟩ : ByteArray) d2 _ (Kd.C_below HR2.out HB.out) HC2.out HD.out.two).mono ?_); rintro e1 w6 ⟨v_, rfl, hR, hb⟩; obtain ⟨D2, mD2, rfl⟩ := Kd.N_slice hR; replace HX4 := Aside0.mk (And.intro (Kd.C_below HX4.out.1 hb) HX4.out.2); replace HD1 := Aside0.mk (And.intro (Kd.C_below HD1.out.1 hb) HD1.out.2); replace HB := Aside0.mk (below_step HB.out hb); have HD2 := Aside0.mk (And.intro (Kd.N_reads' hR).2.2 (Kd.N_reads' hR).2.1); clear hR hb))
      go_upto_region 20 with (first | (go_at_call 53; (with_reducible refine (pair_calls k m D1 mD1 d1 D2 mD2 d2 n0 n1 n2 o1 o2 _ HD1.out.1 HD1.out.2 HD2.out.1 HD2.out.2 HD.out.c1 HD.out.c2 HD.out.l1 HD.out.l2 HD.out.pair).mono ?_); rintro e1 w7 ⟨va_, vb_, rfl, hR, hR2, hb⟩; obtain ⟨O1, nO1, rfl⟩ := Kd.N_slice hR; obtain ⟨O2, nO2, rfl⟩ := Kd.N_slice hR2; replace HX4 := Aside0.mk (And.intro (Kd.C_below HX4.out.1 hb) HX4.out.2); replace HD1 := Aside0.mk (And.intro (Kd.C_below HD1.out.1 hb) HD1.out.2); replace HD2 := Aside0.mk (And.intro (Kd.C_below HD2.out.1 hb) HD2.out.2); replace HB := Aside0.mk (below_step HB.out hb); have HO1 := Aside0.mk (And.intro (Kd.N_reads' hR).2.2 (Kd.N_reads' hR).2.1); have HO2 := Aside0.mk (And.intro (Kd.N_reads' hR2).2.2 (Kd.N_reads' hR2).2.1); clear hR hR2 hb) | (go_at_call 48; (with_reducible refine (delta_Apply.calls k (fun j => j < w7.heap.size) X4 n4 F D1 mD1 d1 g 0 w7 (Kd.V_mk HX4.out.2 (Kd.C_F k84_heap HX4.out.1)) HD1.out.1 HD1.out.2 HD.out.goes).mono ?_); rintro e1 w8 ⟨v_, rfl, hR, hb⟩; obtain ⟨G1, nG1, rfl⟩ := Kd.N_slice hR; replace HX4 := Aside0.mk (And.intro (Kd.C_below HX4.out.1 hb) HX4.out.2); replace HD1 := Aside0.mk (And.intro (Kd.C_below HD1.out.1 hb) HD1.out.2); replace HD2 := Aside0.mk (And.intro (Kd.C_below HD2.out.1 hb) HD2.out.2); replace HO1 := Aside0.mk (And.intro (Kd.C_below HO1.out.1 hb) HO1.out.2); replace HO2 := Aside0.mk (And.intro (Kd.C_below HO2.out.1 hb) HO2.out.2); replace HB := Aside0.mk (below_step HB.out hb); have HG1 := Aside0.mk (And.intro (Kd.N_reads' hR).2.2 (Kd.N_reads' hR).2.1); clear hR hb) | (go_at_call 48; (with_reducible refine (delta_Apply.calls k (fun j => j < w8.heap.size) X4 n4 F D2 mD2 d2 h 0 w8 (Kd.V_mk HX4.out.2 (Kd.C_F k84_heap HX4.out.1)) HD2.out.1 HD2.out.2 HD.out.goes2).mono ?_); rintro e1 w9 ⟨v_, rfl, hR, hb⟩; obtain ⟨G2, nG2, rfl⟩ := Kd.N_slice hR; replace HX4 := Aside0.mk (And.intro (Kd.C_below HX4.out.1 hb) HX4.out.2); replace HD1 := Aside0.mk (And.intro (Kd.C_below HD1.out.1 hb) HD1.out.2); replace HD2 := Aside0.mk (And.intro (Kd.C_below HD2.out.1 hb) HD2.out.2); replace HO1 := Aside0.mk (And.intro (Kd.C_below HO1.out.1 hb) HO1.out.2); replace HO2 := Aside0.mk (And.intro (Kd.C_below HO2.out.1 hb) HO2.out.2); replace HG1 := Aside0.mk (And.intro (Kd.C_below HG1.out.1 hb) HG1.out.2); replace HB := Aside0.mk (below_step HB.out hb); have HG2 := Aside0.mk (And.intro (Kd.N_reads' hR).2.2 (Kd.N_reads' hR).2.1); clear hR hb) | (go_at_call 48; (with_reducible refine (delta_Apply.calls k (fun j => j < w9.heap.size) G1 nG1 g O2 nO2 o2 lm 0 w9 (Kd.V_mk HG1.out.2 (Kd.C_F k84_heap HG1.out.1)) HO2.out.1 HO2.out.2 HD.out.left).mono ?_); rintro e1 w10 ⟨v_, rfl, hR, hb⟩; obtain ⟨G3, nG3, rfl⟩ := Kd.N_slice hR; replace HX4 := Aside0.mk (And.intro (Kd.C_below HX4.out.1 hb) HX4.out.2); replace HD1 := Aside0.mk (And.intro (Kd.C_below HD1.out.1 hb) HD1.out.2); replace HD2 := Aside0.mk (And.intro (Kd.C_below HD2.out.1 hb) HD2.out.2); replace HO1 := Aside0.mk (And.intro (Kd.C_below HO1.out.1 hb) HO1.out.2); replace HO2 := Aside0.mk (And.intro (Kd.C_below HO2.out.1 hb) HO2.out.2); replace HG1 := Aside0.mk (And.intro (Kd.C_below HG1.out.1 hb) HG1.out.2); replace HG2 := Aside0.mk (And.intro (Kd.C_below HG2.out.1 hb) HG2.out.2); replace HB := Aside0.mk (below_step HB.out hb); have HG3 := Aside0.mk (And.intro (Kd.N_reads' hR).2.2 (Kd.N_reads' hR).2.1); clear hR hb) | (go_at_call 48; (with_reducible refine (delta_Apply.calls k (fun j => j < w10.heap.size) G2 nG2 h O1 nO1 o1 lm 0 w10 (Kd.V_mk HG2.out.2 (Kd.C_F k84_heap HG2.out.1)) HO1.out.1 HO1.out.2 HD.out.right).mono ?_); rintro e1 w11 ⟨v_, rfl, hR, hb⟩; obtain ⟨G4, nG4, rfl⟩ := Kd.N_slice hR; replace HX4 := Aside0.mk (And.intro (Kd.C_below HX4.out.1 hb) HX4.out.2); replace HD1 := Aside0.mk (And.intro (Kd.C_below HD1.out.1 hb) HD1.out.2); replace HD2 := Aside0.mk (And.intro (Kd.C_below HD2.out.1 hb) HD2.out.2); replace HO1 := Aside0.mk (And.intro (Kd.C_below HO1.out.1 hb) HO1.out.2); replace HO2 := Aside0.mk (And.intro (Kd.C_below HO2.out.1 hb) HO2.out.2); replace HG1 := Aside0.mk (And.intro (Kd.C_below HG1.out.1 hb) HG1.out.2); replace HG2 := Aside0.mk (And.intro (Kd.C_below HG2.out.1 hb) HG2.out.2); replace HG3 := Aside0.mk (And.intro (Kd.C_below HG3.out.1 hb) HG3.out.2); replace HB := Aside0.mk (below_step HB.out hb); have HG4 := Aside0.mk (And.intro (Kd.N_reads' hR).2.2 (Kd.N_reads' hR).2.1); clear hR hb))
      go_upto_region 22 with (first | (go_at_call 50; (with_reducible refine (chanceryref1_SameFlow.calls k G3 nG3 lm G4 nG4 lm true _ HG3.out.1 HG3.out.2 HG4.out.1 HG4.out.2 HD.out.same).mono ?_); rintro e1 w12 ⟨rfl, hb⟩; replace HX4 := Aside0.mk (And.intro (Kd.C_below HX4.out.1 hb) HX4.out.2); replace HD1 := Aside0.mk (And.intro (Kd.C_below HD1.out.1 hb) HD1.out.2); replace HD2 := Aside0.mk (And.intro (Kd.C_below HD2.out.1 hb) HD2.out.2); replace HO1 := Aside0.mk (And.intro (Kd.C_below HO1.out.1 hb) HO1.out.2); replace HO2 := Aside0.mk (And.intro (Kd.C_below HO2.out.1 hb) HO2.out.2); replace HG1 := Aside0.mk (And.intro (Kd.C_below HG1.out.1 hb) HG1.out.2); replace HG2 := Aside0.mk (And.intro (Kd.C_below HG2.out.1 hb) HG2.out.2); replace HG3 := Aside0.mk (And.intro (Kd.C_below HG3.out.1 hb) HG3.out.2); replace HG4 := Aside0.mk (And.intro (Kd.C_below HG4.out.1 hb) HG4.out.2); replace HB := Aside0.mk (below_step HB.out hb); clear hb))
      go_wp2_with (first | (go_at_call 54; (with_reducible refine (chancerykeep1_with.calls k G3 nG3 lm (⟨#[111, 110, 101]⟩ : ByteArray) z1 _ HG3.out.1 HG3.out.2 HD.out.w1).mono ?_); rintro e1 w13 ⟨v_, rfl, hR, hb⟩; obtain ⟨T1, nT1, rfl⟩ := Kd.S_slice hR; replace HX4 := Aside0.mk (And.intro (Kd.C_below HX4.out.1 hb) HX4.out.2); replace HD1 := Aside0.mk (And.intro (Kd.C_below HD1.out.1 hb) HD1.out.2); replace HD2 := Aside0.mk (And.intro (Kd.C_below HD2.out.1 hb) HD2.out.2); replace HO1 := Aside0.mk (And.intro (Kd.C_below HO1.out.1 hb) HO1.out.2); replace HO2 := Aside0.mk (And.intro (Kd.C_below HO2.out.1 hb) HO2.out.2); replace HG1 := Aside0.mk (And.intro (Kd.C_below HG1.out.1 hb) HG1.out.2); replace HG2 := Aside0.mk (And.intro (Kd.C_below HG2.out.1 hb) HG2.out.2); replace HG3 := Aside0.mk (And.intro (Kd.C_below HG3.out.1 hb) HG3.out.2); replace HG4 := Aside0.mk (And.intro (Kd.C_below HG4.out.1 hb) HG4.out.2); replace HB := Aside0.mk (below_step HB.out hb); have HT1 := Aside0.mk (And.intro (Kd.S_reads' hR).2.2 (Kd.S_reads' hR).2.1); clear hR hb) | (go_at_call 55; (with_reducible refine (chancerykeep1_added.calls k D1 mD1 d1 z1 _ HD1.out.1 HD1.out.2 HD.out.a1).mono ?_); rintro e1 w14 ⟨v_, rfl, hR, hb⟩; obtain ⟨U1, nU1, rfl⟩ := Kd.S_slice hR; replace HX4 := Aside0.mk (And.intro (Kd.C_below HX4.out.1 hb) HX4.out.2); replace HD1 := Aside0.mk (And.intro (Kd.C_below HD1.out.1 hb) HD1.out.2); replace HD2 := Aside0.mk (And.intro (Kd.C_below HD2.out.1 hb) HD2.out.2); replace HO1 := Aside0.mk (And.intro (Kd.C_below HO1.out.1 hb) HO1.out.2); replace HO2 := Aside0.mk (And.intro (Kd.C_below HO2.out.1 hb) HO2.out.2); replace HG1 := Aside0.mk (And.intro (Kd.C_below HG1.out.1 hb) HG1.out.2); replace HG2 := Aside0.mk (And.intro (Kd.C_below HG2.out.1 hb) HG2.out.2); replace HG3 := Aside0.mk (And.intro (Kd.C_below HG3.out.1 hb) HG3.out.2); replace HG4 := Aside0.mk (And.intro (Kd.C_below HG4.out.1 hb) HG4.out.2); replace HT1 := Aside0.mk (And.intro (Kd.C_below HT1.out.1 hb) HT1.out.2); replace HB := Aside0.mk (below_step HB.out hb); have HU1 := Aside0.mk (And.intro (Kd.S_reads' hR).2.2 (Kd.S_reads' hR).2.1); clear hR hb) | (go_at_call 50; (with_reducible refine (chanceryref1_SameFlow.calls k T1 nT1 z1 U1 nU1 z1 true _ HT1.out.1 HT1.out.2 HU1.out.1 HU1.out.2 HD.out.s1).mono ?_); rintro e1 w15 ⟨rfl, hb⟩; replace HX4 := Aside0.mk (And.intro (Kd.C_below HX4.out.1 hb) HX4.out.2); replace HD1 := Aside0.mk (And.intro (Kd.C_below HD1.out.1 hb) HD1.out.2); replace HD2 := Aside0.mk (And.intro (Kd.C_below HD2.out.1 hb) HD2.out.2); replace HO1 := Aside0.mk (And.intro (Kd.C_below HO1.out.1 hb) HO1.out.2); replace HO2 := Aside0.mk (And.intro (Kd.C_below HO2.out.1 hb) HO2.out.2); replace HG1 := Aside0.mk (And.intro (Kd.C_below HG1.out.1 hb) HG1.out.2); replace HG2 := Aside0.mk (And.intro (Kd.C_below HG2.out.1 hb) HG2.out.2); replace HG3 := Aside0.mk (And.intro (Kd.C_below HG3.out.1 hb) HG3.out.2); replace HG4 := Aside0.mk (And.intro (Kd.C_below HG4.out.1 hb) HG4.out.2); replace HT1 := Aside0.mk (And.intro (Kd.C_below HT1.out.1 hb) HT1.out.2); replace HU1 := Aside0.mk (And.intro (Kd.C_below HU1.out.1 hb) HU1.out.2); replace HB := Aside0.mk (below_step HB.out hb); clear hb) | (go_at_call 54; (with_reducible refine (chancerykeep1_with.calls k G3 nG3 lm (⟨#[116, 119, 111]⟩ : ByteArray) z2 _ HG3.out.1 HG3.out.2 HD.out.w2).mono ?_); rintro e1 w16 ⟨v_, rfl, hR, hb⟩; obtain ⟨T2, nT2, rfl⟩ := Kd.S_slice hR; replace HX4 := Aside0.mk (And.intro (Kd.C_below HX4.out.1 hb) HX4.out.2); replace HD1 := Aside0.mk (And.intro (Kd.C_below HD1.out.1 hb) HD1.out.2); replace HD2 := Aside0.mk (And.intro (Kd.C_below HD2.out.1 hb) HD2.out.2); replace HO1 := Aside0.mk (And.intro (Kd.C_below HO1.out.1 hb) HO1.out.2); replace HO2 := Aside0.mk (And.intro (Kd.C_below HO2.out.1 hb) HO2.out.2); replace HG1 := Aside0.mk (And.intro (Kd.C_below HG1.out.1 hb) HG1.out.2); replace HG2 := Aside0.mk (And.intro (Kd.C_below HG2.out.1 hb) HG2.out.2); replace HG3 := Aside0.mk (And.intro (Kd.C_below HG3.out.1 hb) HG3.out.2); replace HG4 := Aside0.mk (And.intro (Kd.C_below HG4.out.1 hb) HG4.out.2); replace HT1 := Aside0.mk (And.intro (Kd.C_below HT1.out.1 hb) HT1.out.2); replace HU1 := Aside0.mk (And.intro (Kd.C_below HU1.out.1 hb) HU1.out.2); replace HB := Aside0.mk (below_step HB.out hb); have HT2 := Aside0.mk (And.intro (Kd.S_reads' hR).2.2 (Kd.S_reads' hR).2.1); clear hR hb) | (go_at_call 55; (with_reducible refine (chancerykeep1_added.calls k D2 mD2 d2 z2 _ HD2.out.1 HD2.out.2 HD.out.a2).mono ?_); rintro e1 w17 ⟨v_, rfl, hR, hb⟩; obtain ⟨U2, nU2, rfl⟩ := Kd.S_slice hR; replace HX4 := Aside0.mk (And.intro (Kd.C_below HX4.out.1 hb) HX4.out.2); replace HD1 := Aside0.mk (And.intro (Kd.C_below HD1.out.1 hb) HD1.out.2); replace HD2 := Aside0.mk (And.intro (Kd.C_below HD2.out.1 hb) HD2.out.2); replace HO1 := Aside0.mk (And.intro (Kd.C_below HO1.out.1 hb) HO1.out.2); replace HO2 := Aside0.mk (And.intro (Kd.C_below HO2.out.1 hb) HO2.out.2); replace HG1 := Aside0.mk (And.intro (Kd.C_below HG1.out.1 hb) HG1.out.2); replace HG2 := Aside0.mk (And.intro (Kd.C_below HG2.out.1 hb) HG2.out.2); replace HG3 := Aside0.mk (And.intro (Kd.C_below HG3.out.1 hb) HG3.out.2); replace HG4 := Aside0.mk (And.intro (Kd.C_below HG4.out.1 hb) HG4.out.2); replace HT1 := Aside0.mk (And.intro (Kd.C_below HT1.out.1 hb) HT1.out.2); replace HU1 := Aside0.mk (And.intro (Kd.C_below HU1.out.1 hb) HU1.out.2); replace HT2 := Aside0.mk (And.intro (Kd.C_below HT2.out.1 hb) HT2.out.2); replace HB := Aside0.mk (below_step HB.out hb); have HU2 := Aside0.mk (And.intro (Kd.S_reads' hR).2.2 (Kd.S_reads' hR).2.1); clear hR hb) | (go_at_call 50; (with_reducible refine (chanceryref1_SameFlow.calls k T2 nT2 z2 U2 nU2 z2 true _ HT2.out.1 HT2.out.2 HU2.out.1 HU2.out.2 HD.out.s2).mono ?_); rintro e1 w18 ⟨rfl, hb⟩; replace HX4 := Aside0.mk (And.intro (Kd.C_below HX4.out.1 hb) HX4.out.2); replace HD1 := Aside0.mk (And.intro (Kd.C_below HD1.out.1 hb) HD1.out.2); replace HD2 := Aside0.mk (And.intro (Kd.C_below HD2.out.1 hb) HD2.out.2); replace HO1 := Aside0.mk (And.intro (Kd.C_below HO1.out.1 hb) HO1.out.2); replace HO2 := Aside0.mk (And.intro (Kd.C_below HO2.out.1 hb) HO2.out.2); replace HG1 := Aside0.mk (And.intro (Kd.C_below HG1.out.1 hb) HG1.out.2); replace HG2 := Aside0.mk (And.intro (Kd.C_below HG2.out.1 hb) HG2.out.2); replace HG3 := Aside0.mk (And.intro (Kd.C_below HG3.out.1 hb) HG3.out.2); replace HG4 := Aside0.mk (And.intro (Kd.C_below HG4.out.1 hb) HG4.out.2); replace HT1 := Aside0.mk (And.intro (Kd.C_below HT1.out.1 hb) HT1.out.2); replace HU1 := Aside0.mk (And.intro (Kd.C_below HU1.out.1 hb) HU1.out.2); replace HT2 := Aside0.mk (And.intro (Kd.C_below HT2.out.1 hb) HT2.out.2); replace HU2 := Aside0.mk (And.intro (Kd.C_below HU2.out.1 hb) HU2.out.2); replace HB := Aside0.mk (below_step HB.out hb); clear hb))
      first | go_ret | go_ret2
      exact ⟨rfl, HB.out⟩
    obtain ⟨gl, rfl⟩ : ∃ gl, gk = gl + 1 := ⟨gk - 1, by have := HI.out; omega⟩
    have g1 : decide ((i : Int) < (f'.length : Int)) = true := decide_eq_true (by omega)
    have g1' : decide (i < f'.length) = true := decide_eq_true d2
    obtain ⟨g, cap, hv, hg1, hg2, hg3⟩ := Kd.N_form HN.out.1 (by rw [HX.out.1]; omega)
    obtain rfl : A4 = some ⟨g, 0, none⟩ := by injection hv
    clear hv hg1 hg2 hg3
    have q1 : (i : Int) < (f'.length : Int) := by omega
    obtain ⟨c, hcl, hcf, hcc⟩ := Kd.N_get HN.out.1 z84 (i : Int) (by omega) q1
    obtain ⟨x, hx⟩ : ∃ x, x = xs.getD ((i : Int)).toNat z84 := ⟨_, rfl⟩
    rw [← hx] at hcf
    obtain ⟨B2, m2, rfl, hl2, hF2⟩ := k84_openF hcf
    have hx0 : wr.cell? ⟨g, i * 3, none⟩ = some (.int .i64 x.f0) := by
      have := hcc 0 _ rfl
      rw [Int.toNat_natCast, add_g, show i * k84.sz + 0 = i * 3 from rfl] at this
      exact this
    have hxr : rd_T84 xs (i : Int) = x := hx.symm
    have hdr : xs.drop i = x :: xs.drop (i + 1) := by rw [drop_T84 xs i (by rw [HX.out.1]; exact d2), hxr]
    have hxc : 0 ≤ x.f0 ∧ x.f0 ≤ 1114111 := HX.out.2.2 x (by rw [hdr]; exact List.mem_cons_self)
    have wk : wrap64 ((i : Int) + 1) = (i : Int) + 1 := by have := HL40.out; unfold wrap64; omega
    have HWK : Aside0 (wrap64 (x.f0 + 32) = x.f0 + 32) := ⟨by unfold wrap64; omega⟩
    have HIG := Aside0.mk (show gl + (i + 1) = f'.length by have := HI.out; omega)
    have HDR := Aside0.mk hdr
    have HXC := Aside0.mk hxc
    have HIL := Aside0.mk d2
    have HL2 := Aside0.mk hl2
    have HF2 := Aside0.mk hF2
    have HCC := Aside0.mk hcc
    have HIN : Aside0 (chanceryref1_In.f x.f0 65 90 = some (decide (65 ≤ x.f0 ∧ x.f0 ≤ 90))) := ⟨by
      unfold chanceryref1_In.f
      by_cases a1 : x.f0 ≥ 65
      · rw [if_pos a1]; congr 1; exact decide_eq_decide.mpr ⟨fun h => ⟨a1, h⟩, fun h => h.2⟩
      · rw [if_neg a1, decide_eq_false (fun h => a1 h.1)]⟩
    clear hx hxr hdr hxc d2 hl2 hF2 hcc hcl hcf
    by_cases d3 : 65 ≤ x.f0 ∧ x.f0 ≤ 90
    · rw [decide_eq_true d3] at HIN
      have HLX := Aside0.mk (show lowC x = ⟨x.f0 + 32, x.f1, x.f2⟩ from if_pos d3)
      clear d3
      go_upto_region 12 with (go_at_call 52; (with_reducible refine (chanceryref1_In.calls x.f0 65 90 true _ HIN.out).mono ?_); rintro e1 w5 ⟨rfl, hb⟩; have HD5 := Aside0.mk hb; clear hb)
      have HN5 := Aside0.mk (And.intro (Kd.N_below HN.out.1 (drawn_below HD5.out)) (below_step HN.out.2 (drawn_below HD5.out)))
      have hy0 : w5.cell? ⟨g, i * 3, none⟩ = some (.int .i64 x.f0) := ((drawn_below HD5.out).cell (World.block_lt_of_cell? wr _ hx0)).trans hx0
      have HC5 : Aside0 (∀ (j : Nat) (u : Value), [Value.int .i64 x.f0, .int .i64 x.f1, .slice B2 x.f2.length m2][j]? = some u → w5.cell? ⟨g, ((i : Int)).toNat * k84.sz + j, none⟩ = some u) := ⟨fun j u h => by
        have := HCC.out j u h
        rw [add_g] at this
        exact ((drawn_below HD5.out).cell (World.block_lt_of_cell? wr _ this)).trans this⟩
      have HF5 := Aside0.mk (Kd.F_below HF2.out (drawn_below HD5.out))
      clear HN HF2 HCC
      go_wp2_with ((with_reducible refine gate_store (t := 3) (p := 52) rfl ?_); go_loud (refine Kd.N_store k84 (w0 := w2) w2.heap.size ?hN ?hg 3 (.tmp 52) (.tmp 50) ?ho 84 (i : Int) 0 xs ⟨x.f0 + 32, x.f1, x.f2⟩ (.int .i64 (x.f0 + 32)) [.int .i64 (x.f0 + 32)] [.int .i64 x.f0, .int .i64 x.f1, .slice B2 x.f2.length m2] (fun _ => True) (fun k => True ∧ some k ≠ (Value.slice (some ⟨g, 0, none⟩) f'.length n4).ownBlock) (g := g) (n := f'.length) (cap := n4) (o' := i * 3) (by rfl) ?hoff (by show Value.int .i64 (wrap64 (x.f0 + 32)) = _; rw [HWK.out]) (by rfl) (by kernel_rfl) ?h1 HN5.out.1 (by omega) q1 rfl HC5.out (show 0 + 1 ≤ 3 by omega) (k84_mkF _ _ ⟨x.f0 + 32, x.f1, x.f2⟩ HL2.out HF5.out) ?hok HN5.out.2 ?_; (case hN => rfl); (case hg => rfl); (case ho => rfl); (case hoff => rfl); (case h1 => intro q hq; rw [List.mem_singleton.1 hq]; rfl); (case hok => exact fun k hk => ⟨trivial, fun e => hk.2 (by rw [e]; rfl)⟩); intro w6 hN6 hB6 _; rw [Int.toNat_natCast] at hN6; have HN6 := Aside0.mk (And.intro hN6 hB6); clear hN6 hB6))
      go_roundg gl
      case measure => omega
      case rel => exact ⟨i + 1, xs.set i ⟨x.f0 + 32, x.f1, x.f2⟩, by simp [wk], HIG, ⟨by rw [List.length_set]; exact HX.out.1, low_step (by rw [HX.out.1]; exact HIL.out) HDR.out HLX.out HX.out.2.1, fun y hy => HX.out.2.2 y (by rw [HDR.out, drop_set_lt] at *; exact List.mem_cons_of_mem _ hy)⟩, HN6⟩
    · rw [decide_eq_false d3] at HIN
      have HLX := Aside0.mk (show lowC x = x from if_neg d3)
      clear d3
      go_wp2_with (go_at_call 52; (with_reducible refine (chanceryref1_In.calls x.f0 65 90 false _ HIN.out).mono ?_); rintro e1 w5 ⟨rfl, hb⟩; have HN5 := Aside0.mk (And.intro (Kd.N_below HN.out.1 (drawn_below hb)) (below_step HN.out.2 (drawn_below hb))); clear hb)
      go_roundg gl
      case measure => omega
      case rel => exact ⟨i + 1, xs, by simp [wk], HIG, ⟨HX.out.1, by
        rw [HX.out.2.1, HDR.out, List.map_cons, HLX.out]
        conv => rhs; rw [show xs.take (i + 1) = xs.take i ++ [x] from by rw [List.take_add_one, List.getElem?_eq_getElem (by rw [HX.out.1]; exact HIL.out)]; have := HDR.out; rw [List.drop_eq_getElem_cons (by rw [HX.out.1]; exact HIL.out)] at this; injection this with h1 _; rw [h1]; rfl]
        rw [List.append_assoc]; rfl, fun y hy => HX.out.2.2 y (by rw [HDR.out]; exact List.mem_cons_of_mem _ hy)⟩, HN5⟩
theorem in_capital (c : Int) : chanceryref1_In.f c 65 90 = some (decide (65 ≤ c ∧ c ≤ 90)) := by
  unfold chanceryref1_In.f
  by_cases a1 : c ≥ 65
  · rw [if_pos a1]; congr 1; exact decide_eq_decide.mpr ⟨fun h => ⟨a1, h⟩, fun h => h.2⟩
  · rw [if_neg a1, decide_eq_false (fun h => a1 h.1)]
theorem with_l0 (l : List S84) (name : ByteArray) (hl : l.length ≤ 1073741824) (hs : ∀ x ∈ l, x.f2.length ≤ 1099511627776) (n : Nat) : ∀ (i : Nat) (acc : List S84), i + n = l.length → acc.length + n ≤ 1073741824 →
    Ev (fun k => chancerykeep1_with.l0 k l name acc (l.length : Int) (i : Int)) (acc ++ tag (onL name) (l.drop i)) := by
  induction n with
  | zero =>
    intro i acc hi ha
    rw [List.drop_eq_nil_of_le (by omega), tag, List.append_nil]
    refine Ev.step (f := fun _ => some acc) (fun k => ?_) (Ev.now _)
    simp only [chancerykeep1_with.l0]
    rw [if_neg (by omega)]
  | succ n ih =>
    intro i acc hi ha
    have hlt : i < l.length := by omega
    have wi : wrap64 ((i : Int) + 1) = ((i + 1 : Nat) : Int) := by rw [wrap_up (by omega) (by omega)]; rfl
    rw [drop_T84 l i hlt, tag]
    obtain ⟨x, hx⟩ : ∃ x, x = rd_T84 l (i : Int) := ⟨_, rfl⟩
    have hxm : x ∈ l := by
      have := drop_T84 l i hlt
      rw [← hx] at this
      exact List.mem_of_mem_drop (i := i) (by rw [this]; exact List.mem_cons_self)
    rw [← hx]
    obtain ⟨r, hr, hri⟩ := rsame_ev x.f2 (onL name) (hs x hxm)
    let f : Nat → Bool → Option (List S84) := fun k t => if t = true then ((chanceryref1_In.f x.f0 65 90).bind fun u => (if u = true then (if acc.length < 3518437208883 then (chancerykeep1_with.l0 k l name (acc ++ [strip x]) (l.length : Int) (wrap64 ((i : Int) + 1))) else none) else (chancerykeep1_with.l0 k l name acc (l.length : Int) (wrap64 ((i : Int) + 1))))) else (chancerykeep1_with.l0 k l name acc (l.length : Int) (wrap64 ((i : Int) + 1)))
    have hstep : ∀ k, chancerykeep1_with.l0 (k + 1) l name acc (l.length : Int) (i : Int) = (chanceryref1_SameAttrs.f k x.f2 (onL name)).bind (f k) := by
      intro k
      simp only [chancerykeep1_with.l0]
      rw [if_pos (by omega), if_pos (by omega), if_pos (by omega), ← hx]
      rfl
    refine Ev.step hstep (Ev.bind hr ?_)
    by_cases ht : tagP (onL name) x
    · rw [if_pos ht]
      obtain rfl : r = true := hri.2 ht.1
      have := ih (i + 1) (acc ++ [strip x]) (by omega) (by rw [List.length_append]; simp only [List.length_singleton]; omega)
      rw [List.append_assoc] at this
      refine Ev.congr (fun k => ?_) this
      show (if true = true then _ else _) = _
      rw [if_pos rfl, in_capital, decide_eq_true ht.2, Option.bind_some, if_pos rfl, if_pos (by omega), wi]
    · rw [if_neg ht]
      have := ih (i + 1) acc (by omega) (by omega)
      refine Ev.congr (fun k => ?_) this
      show (if r = true then _ else _) = _
      by_cases hr1 : r = true
      · rw [if_pos hr1, in_capital, decide_eq_false (fun h => ht ⟨hri.1 hr1, h⟩), Option.bind_some, if_neg (by decide), wi]
      · rw [if_neg hr1, wi]
theorem with_ev (l : List S84) (name : ByteArray) (hl : l.length ≤ 1073741824) (hs : ∀ x ∈ l, x.f2.length ≤ 1099511627776) : Ev (fun k => chancerykeep1_with.f k l name) (tag (onL name) l) := by
  have := with_l0 l name hl hs l.length 0 [] (by omega) (by simpa using hl)
  exact Ev.congr (f := fun k => chancerykeep1_with.l0 k l name [] (l.length : Int) 0) (fun k => rfl) (by simpa using this)
theorem added_l1 (d : List S70) (i : Nat) (hi : i < d.length) (rest : List S84) (H : ∀ acc : List S84, acc.length + rest.length ≤ 1073741824 → Ev (fun k => chancerykeep1_added.l0 k d acc (d.length : Int) ((i + 1 : Nat) : Int)) (acc ++ rest.map strip)) (hd : d.length ≤ 1073741824) (hx : (rd_T70 d (i : Int)).f3.length ≤ 1073741824) (n : Nat) :
    ∀ (j : Nat) (acc : List S84), j + n = (rd_T70 d (i : Int)).f3.length → acc.length + n + rest.length ≤ 1073741824 → Ev (fun k => chancerykeep1_added.l1 k d acc (i : Int) (d.length : Int) (i : Int) ((rd_T70 d (i : Int)).f3.length : Int) (j : Int)) (acc ++ (((rd_T70 d (i : Int)).f3.drop j) ++ rest).map strip) := by
  induction n with
  | zero =>
    intro j acc hj ha
    rw [List.drop_eq_nil_of_le (by omega), List.nil_append]
    have wi : wrap64 ((i : Int) + 1) = ((i + 1 : Nat) : Int) := by rw [wrap_up (by omega) (by omega)]; rfl
    refine Ev.step (fun k => ?_) (H acc (by omega))
    simp only [chancerykeep1_added.l1]
    rw [if_neg (by omega), wi]
  | succ n ih =>
    intro j acc hj ha
    have wj : wrap64 ((j : Int) + 1) = ((j + 1 : Nat) : Int) := by rw [wrap_up (by omega) (by omega)]; rfl
    rw [drop_T84 _ j (by omega), List.cons_append, List.map_cons]
    have := ih (j + 1) (acc ++ [strip (rd_T84 (rd_T70 d (i : Int)).f3 (j : Int))]) (by omega) (by rw [List.length_append]; simp only [List.length_singleton]; omega)
    rw [List.append_assoc] at this
    refine Ev.step (fun k => ?_) this
    simp only [chancerykeep1_added.l1]
    rw [if_pos (by omega), if_pos (by omega), if_pos (by omega), if_pos (by omega), if_pos (by omega), if_pos (by omega), wj]
    rfl
def f3s (d : List S70) : List S84 := d.flatMap (fun s => s.f3)
theorem added_l0 (d : List S70) (hd : d.length ≤ 1073741824) (n : Nat) : ∀ (i : Nat) (acc : List S84), i + n = d.length → acc.length + (f3s (d.drop i)).length ≤ 1073741824 →
    Ev (fun k => chancerykeep1_added.l0 k d acc (d.length : Int) (i : Int)) (acc ++ (f3s (d.drop i)).map strip) := by
  induction n with
  | zero =>
    intro i acc hi ha
    rw [List.drop_eq_nil_of_le (by omega), f3s, List.flatMap_nil, List.map_nil, List.append_nil]
    refine Ev.step (f := fun _ => some acc) (fun k => ?_) (Ev.now _)
    simp only [chancerykeep1_added.l0]
    rw [if_neg (by omega)]
  | succ n ih =>
    intro i acc hi ha
    have hlt : i < d.length := by omega
    have e : f3s (d.drop i) = (rd_T70 d (i : Int)).f3 ++ f3s (d.drop (i + 1)) := by rw [drop_T70 d i hlt]; rfl
    rw [e, List.length_append] at ha
    rw [e]
    have := added_l1 d i hlt (f3s (d.drop (i + 1))) (fun acc' h => ih (i + 1) acc' (by omega) h) hd (by omega) (rd_T70 d (i : Int)).f3.length 0 acc (by omega) (by omega)
    rw [List.drop_zero] at this
    refine Ev.step (fun k => ?_) this
    simp only [chancerykeep1_added.l0]
    rw [if_pos (by omega), if_pos (by omega), if_pos (by omega)]
    rfl
theorem added_ev (d : List S70) (hd : d.length ≤ 1073741824) (hl : (f3s d).length ≤ 1073741824) : Ev (fun k => chancerykeep1_added.f k d) ((f3s d).map strip) := by
  have := added_l0 d hd d.length 0 [] (by omega) (by simpa using hl)
  exact Ev.congr (f := fun k => chancerykeep1_added.l0 k d [] (d.length : Int) 0) (fun k => rfl) (by simpa using this)
theorem adds_us {s : S70} (h : StepOK s) : adds (us s) = s.f3 := by
  rcases h with h | h | h
  · rw [us_keep h.1, adds_keeps, h.2.2.2.1]
  · rw [us_add h.1, adds_adds]
  · rw [us_cut h.1, adds_cuts, h.2.2.2.1]
theorem adds_units : ∀ {d : List S70}, (∀ s ∈ d, StepOK s) → adds (units d) = f3s d
  | [], _ => rfl
  | s :: d, h => by rw [units_cons, adds_app, adds_us (h s List.mem_cons_self), adds_units (fun x hx => h x (List.mem_cons_of_mem _ hx))]; rfl
theorem adds_len : ∀ u : List Un, (adds u).length ≤ u.length
  | [] => Nat.le_refl _
  | .add x :: u => by have := adds_len u; simp only [adds, List.length_cons]; omega
  | .keep t :: u => by have := adds_len u; simp only [adds, List.length_cons]; omega
  | .cut :: u => by have := adds_len u; simp only [adds, List.length_cons]; omega
theorem adds_actU : ∀ (As : List (List S84)) (Cs : List Bool) (Ts : List (List S38)), ∀ x ∈ adds (actU As Cs Ts), ∃ a ∈ As, x ∈ a
  | [], Cs, Ts, x, hx => by simp [actU, adds] at hx
  | a :: As, [], Ts, x, hx => by rw [actU, adds_adds] at hx; exact ⟨a, List.mem_cons_self, hx⟩
  | a :: As, c :: Cs, [], x, hx => by simp [actU, adds] at hx
  | a :: As, c :: Cs, t :: Ts, x, hx => by
    rw [actU, adds_app, adds_app, adds_adds, List.mem_append, List.mem_append] at hx
    rcases hx with (hx | hx) | hx
    · exact ⟨a, List.mem_cons_self, hx⟩
    · cases c <;> simp [adds] at hx
    · obtain ⟨b, hb, hxb⟩ := adds_actU As Cs Ts x hx
      exact ⟨b, List.mem_cons_of_mem _ hb, hxb⟩
theorem ChOK.tags {name : ByteArray} {n : Nat} {o : List S70} (h : ChOK name n o) : ∀ x ∈ adds (units o), tagP (onL name) x := by
  obtain ⟨As, Cs, Ts, eu, _, _, _, h4, _⟩ := h.ex
  intro x hx
  rw [adds_E eu] at hx
  obtain ⟨a, ha, hxa⟩ := adds_actU As Cs Ts x hx
  obtain ⟨_, _, e1, _, e2, e3⟩ := (h4 a ha).2 x hxa
  exact ⟨e1, e2, e3⟩
theorem low_ok {x : S84} (h : ElemOK x) : ElemOK (lowC x) ∧ Low (lowC x) ∧ (lowC x).f2 = x.f2 ∧ 0 ≤ x.f0 ∧ x.f0 ≤ 1114111 := by
  have hc : 0 ≤ x.f0 ∧ x.f0 ≤ 1114111 := by
    rcases h.1 with a | a
    · omega
    · have := a.2; unfold CharOK at this; omega
  unfold lowC
  by_cases d : 65 ≤ x.f0 ∧ x.f0 ≤ 90
  · rw [if_pos d]
    have h1 : x.f1 = 0 := by rcases h.1 with a | a; omega; exact a.1
    exact ⟨⟨.inr ⟨h1, by unfold CharOK; simp only; omega⟩, h.2⟩, by unfold Low; simp only; omega, rfl, hc⟩
  · rw [if_neg d]
    exact ⟨h, d, rfl, hc⟩
theorem marks_ne : onL (⟨#[111, 110, 101]⟩ : ByteArray) ≠ onL (⟨#[116, 119, 111]⟩ : ByteArray) := fun h => by
  have h2 := congrArg (fun l : List S38 => l.map (fun x => x.f0.data[0]?)) h
  exact absurd h2 (by decide)
theorem pair_law (f : List S84) (p q : List Int) (hf : FFine f) : ∃ k, PairAt k f p q := by
  have hcl : (cut40 f).length ≤ 40 ∧ ∀ x ∈ cut40 f, x ∈ f := by
    unfold cut40
    split
    · exact ⟨by rw [List.length_take]; omega, fun x hx => List.mem_of_mem_take hx⟩
    · exact ⟨by omega, fun x hx => hx⟩
  have hff : FFine (cut40 f) := ⟨by omega, fun x hx => hf.2 x (hcl.2 x hx)⟩
  obtain ⟨e, he, hei⟩ := rpart_ev (cut40 f) hff.fsmall
  by_cases h0 : e = 0
  rotate_left
  · obtain ⟨k, hk⟩ := he.rounds
    exact ⟨k, e, hk, .inl h0⟩
  have hp0 := pok_mem.1 (hei.1 h0)
  obtain ⟨F, hF⟩ : ∃ F, F = (cut40 f).map lowC := ⟨_, rfl⟩
  have hFl : F.length ≤ 40 := by rw [hF, List.length_map]; exact hcl.1
  have hFe : ∀ x ∈ F, (ElemOK x ∧ Low x) ∧ x.f2.length ≤ 1048576 := by
    intro x hx
    rw [hF] at hx
    obtain ⟨y, hy, rfl⟩ := List.mem_map.1 hx
    obtain ⟨a1, a2, a3, _⟩ := low_ok (hp0 y hy)
    exact ⟨⟨a1, a2⟩, by rw [a3]; exact hff.lb.2 y hy⟩
  have hpe : ∀ x ∈ F, ElemOK x := fun x hx => (hFe x hx).1.1
  have hp : POK F := pok_mem.2 hpe
  have hlb : LB 1073741824 F := ⟨by omega, fun x hx => by have := (hFe x hx).2; omega⟩
  obtain ⟨d1, e1, hc1⟩ := change_ev F.length p one_ok (by omega)
  have hk1 := hc1.counts
  have hdk1 : DOK d1 := hc1.fo.dok (by omega)
  have hdb1 : DB 1073741824 d1 := hc1.fo.db (by omega) (by omega)
  have hn1 := nnew_le (units d1)
  have hgl := run_len (units d1) F hk1.1
  have hge := run_ok (units d1) F hpe (units_uok hc1.fo.ok)
  have hga := run_att (B := 1048576) (A := 2) (units d1) F (fun x hx => (hFe x hx).2) (units_uat hc1.fo.ok hc1.fo.att)
  have a1 := apply_ev F d1 hp hlb hdk1 hdb1 (by rw [old_units hc1.fo.ok, hk1.1]) (by rw [new_units hc1.fo.ok]; omega)
  obtain ⟨d2, e2, hc2⟩ := change_ev F.length q two_ok (by omega)
  have hk2 := hc2.counts
  have hdk2 : DOK d2 := hc2.fo.dok (by omega)
  have hdb2 : DB 1073741824 d2 := hc2.fo.db (by omega) (by omega)
  have hn2 := nnew_le (units d2)
  have hhl := run_len (units d2) F hk2.1
  have hhe := run_ok (units d2) F hpe (units_uok hc2.fo.ok)
  have hha := run_att (B := 1048576) (A := 2) (units d2) F (fun x hx => (hFe x hx).2) (units_uat hc2.fo.ok hc2.fo.att)
  have a2 := apply_ev F d2 hp hlb hdk2 hdb2 (by rw [old_units hc2.fo.ok, hk2.1]) (by rw [new_units hc2.fo.ok]; omega)
  have c1 : Ev (fun k => delta_Check.f k d1) 0 := by
    obtain ⟨r, er, hr⟩ := check_ev d1 (dsm hc1.fo.ok hdb1 (Nat.le_refl _))
    obtain rfl := hr.2 hdk1
    exact er
  have c2 : Ev (fun k => delta_Check.f k d2) 0 := by
    obtain ⟨r, er, hr⟩ := check_ev d2 (dsm hc2.fo.ok hdb2 (Nat.le_refl _))
    obtain rfl := hr.2 hdk2
    exact er
  have l1 := lengths_ev d1 (dsm hc1.fo.ok hdb1 (Nat.le_refl _)) hdk1
  have l2 := lengths_ev d2 (dsm hc2.fo.ok hdb2 (Nat.le_refl _)) hdk2
  have hmid : old d2 = old d1 := by rw [old_units hc1.fo.ok, old_units hc2.fo.ok, hk1.1, hk2.1]
  rw [hmid] at l2
  obtain ⟨o1, o2, X, Y, ej, fo1, fo2, hP, eo1, eo2⟩ := pair_spec (A := 4) (B := 2) (by omega) (by omega) ((units d1).length + (units d2).length + 1) d1 0 d2 0 ⟨[], [], 0⟩ ⟨[], [], 0⟩ (by rw [RU_zero, RU_zero]; omega) (WF.nil 4) (WF.nil 4) (rp_of (n := 0) hc1.fo (by omega)) (rp_of (n := 0) hc2.fo (by omega)) (by rw [RU_zero, RU_zero, hk1.1, hk2.1]) (by rw [RU_zero, RU_zero]; show 0 + _ + _ ≤ _; omega) (by rw [RU_zero, RU_zero]; show 0 + _ + _ ≤ _; omega)
  rw [RU_zero, RU_zero] at hP
  have eo1' : E (units o1) X := eo1
  have eo2' : E (units o2) Y := eo2
  obtain ⟨m1, m2, m3⟩ := hP.meets marks_ne F hk1.1 hk2.1 (fun x hx => (hFe x hx).1) (units_uok hc1.fo.ok) (units_uok hc2.fo.ok) hc1.tags hc2.tags
  obtain ⟨q1, q2, q3, q4⟩ := hP.counts
  have hl1 := eo1'.len
  have hl2 := eo2'.len
  have hv1 := nnew_le (units o1)
  have hv2 := nnew_le (units o2)
  obtain ⟨g, hg⟩ : ∃ g, g = (run F (units d1)).1 := ⟨_, rfl⟩
  obtain ⟨h, hh⟩ : ∃ h, h = (run F (units d2)).1 := ⟨_, rfl⟩
  rw [← hg] at a1 hgl hge hga m1 m2 m3
  rw [← hh] at a2 hhl hhe hha m1
  have a3 := apply_ev g o2 (pok_mem.2 hge) ⟨by omega, fun x hx => by have := hga x hx; omega⟩ (fo2.dok (by omega)) (fo2.db (by omega) (by omega)) (by rw [old_units fo2.ok, eo2'.old, q2, hgl]) (by rw [new_units fo2.ok]; omega)
  have a4 := apply_ev h o1 (pok_mem.2 hhe) ⟨by omega, fun x hx => by have := hha x hx; omega⟩ (fo1.dok (by omega)) (fo1.db (by omega) (by omega)) (by rw [old_units fo1.ok, eo1'.old, q1, hhl]) (by rw [new_units fo1.ok]; omega)
  have hmo : nold (units o2) = g.length := by rw [eo2'.old, q2, hgl]
  have hml := run_len (units o2) g hmo
  have hme := run_ok (units o2) g hge (units_uok fo2.ok)
  have hma := run_att (B := 1048578) (A := 4) (units o2) g (fun x hx => hga x hx) (units_uat fo2.ok fo2.att)
  rw [eo1'.run, ← m1] at a4
  rw [← eo2'.run] at m2 m3 a4
  obtain ⟨lm, hlm⟩ : ∃ lm, lm = (run g (units o2)).1 := ⟨_, rfl⟩
  rw [← hlm] at a3 a4 hml hme hma m2 m3
  have sm := same_flow_ev lm (fsmall (pok_mem.2 hme) (n := 1073741824) ⟨by omega, fun x hx => by have := hma x hx; omega⟩ (Nat.le_refl _))
  have w1 := with_ev lm (⟨#[111, 110, 101]⟩ : ByteArray) (by omega) (fun x hx => by have := hma x hx; omega)
  have w2 := with_ev lm (⟨#[116, 119, 111]⟩ : ByteArray) (by omega) (fun x hx => by have := hma x hx; omega)
  rw [m2] at w1
  rw [m3] at w2
  have al1 := adds_len (units d1)
  have al2 := adds_len (units d2)
  have ad1 := added_ev d1 (by have := units_len hc1.fo.ok; omega) (by rw [← adds_units hc1.fo.ok]; omega)
  have ad2 := added_ev d2 (by have := units_len hc2.fo.ok; omega) (by rw [← adds_units hc2.fo.ok]; omega)
  rw [← adds_units hc1.fo.ok] at ad1
  rw [← adds_units hc2.fo.ok] at ad2
  have zs : ∀ l : List S84, l.length ≤ 1000 → Ev (fun k => chanceryref1_SameFlow.f k (l.map strip) (l.map strip)) true := fun l hl => same_flow_ev _ ⟨by rw [List.length_map]; omega, fun x hx => by
    obtain ⟨y, _, rfl⟩ := List.mem_map.1 hx
    exact ⟨small_nil, Nat.zero_le _⟩⟩
  have z1 := zs (adds (units d1)) (by omega)
  have z2 := zs (adds (units d2)) (by omega)
  obtain ⟨K0, g0⟩ := he
  obtain ⟨K1, g1⟩ := e1
  obtain ⟨K2, g2⟩ := e2
  obtain ⟨K3, g3⟩ := a1
  obtain ⟨K4, g4⟩ := a2
  obtain ⟨K5, g5⟩ := c1
  obtain ⟨K6, g6⟩ := c2
  obtain ⟨K7, g7⟩ := l1
  obtain ⟨K8, g8⟩ := l2
  obtain ⟨K9, g9⟩ := ej
  obtain ⟨K10, g10⟩ := a3
  obtain ⟨K11, g11⟩ := a4
  obtain ⟨K12, g12⟩ := sm
  obtain ⟨K13, g13⟩ := w1
  obtain ⟨K14, g14⟩ := w2
  obtain ⟨K15, g15⟩ := ad1
  obtain ⟨K16, g16⟩ := ad2
  obtain ⟨K17, g17⟩ := z1
  obtain ⟨K18, g18⟩ := z2
  obtain ⟨M, hM⟩ : ∃ M, M = K0 + K1 + K2 + K3 + K4 + K5 + K6 + K7 + K8 + K9 + K10 + K11 + K12 + K13 + K14 + K15 + K16 + K17 + K18 := ⟨_, rfl⟩
  exact ⟨M, e, g0 _ (by omega), .inr ⟨h0, F, hF, d1, d2, g, h, lm, o1, o2, _, _, _, _, _, _, fun x hx => (low_ok (hp0 x hx)).2.2.2, ⟨g1 _ (by omega), g2 _ (by omega), g3 _ (by omega), g4 _ (by omega), g5 _ (by omega), g6 _ (by omega), g7 _ (by omega), g8 _ (by omega), g9 _ (by omega), g10 _ (by omega), g11 _ (by omega), g12 _ (by omega), g13 _ (by omega), g14 _ (by omega), g15 _ (by omega), g16 _ (by omega), g17 _ (by omega), g18 _ (by omega)⟩⟩⟩
end Go.Proofs.Ytdgemabmmomebaa.PDelta
end

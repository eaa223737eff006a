/- Parts of the proof of Thru: nothing is claimed here by itself. -/
import Derived.Test.YtlcodfjlbhjkbaaKThru5
set_option linter.unusedVariables false
set_option linter.unusedSimpArgs false
section
namespace Go.Proofs.Ytlcodfjlbhjkbaa.PDelta
open Go.RowKit Go.Proofs.YtlcodfjlbhjkbaaW.PrintWords Go.Proofs.YtlcodfjlbhjkbaaW.PrintLast Go.Proofs.YtlcodfjlbhjkbaaW.PrintMore
attribute [local go_sem] max2_int min2_int max_two min_two max_three min_three max_four min_four
attribute [local go_sem high] Go.Proofs.Ytlcodfjlbhjkbaa.Ord.leq_str Go.Proofs.Ytlcodfjlbhjkbaa.Ord.gtr_str Go.Proofs.Ytlcodfjlbhjkbaa.Ord.geq_str
noncomputable section
mutual
def chancerykeep1_SpanThroughContains.j0 : Nat → Int → List Int → Int → Int → Bool → Option (Bool)
 | 0, _, _, _, _, _ => none
 | k + 1, x0, x1, x2, x3, x24 => if x24 = true then (some false) else ((chanceryref1_Within.f x0 1 26).bind fun t307 => ((chanceryref1_Within.f x2 0 (wrap64 (t307 - 1))).bind fun t308 => ((chanceryref1_Within.f x3 (wrap64 (t308 + 1)) t307).bind fun t309 => (chancerykeep1_SpanThroughContains.l0 k t307 x1 t308 t309 ([] : List (S26)) t307 0))))
def chancerykeep1_SpanThroughContains.l0 : Nat → Int → List Int → Int → Int → List (S26) → Int → Int → Option (Bool)
 | 0, _, _, _, _, _, _, _ => none
 | k + 1, x0, x1, x2, x3, x9, x36, x37 => if x37 < x36 then (if x9.length < 3518437208883 then (chancerykeep1_SpanThroughContains.l0 k x0 x1 x2 x3 (x9 ++ [(⟨wrap64 (97 + x37), 0, ([] : List (S91))⟩ : S26)]) x36 (wrap64 (x37 + 1))) else (none)) else ((chancerykeep1_change.f x0 x1 (⟨#[120]⟩ : ByteArray)).bind fun t313 => ((delta_Apply.f k x9 t313).bind fun bt316 => ((span_Through.f k t313 (([(⟨x2, x3⟩ : S44)] : List (S44)))).bind fun bt323 => (if bt316.2 = 0 then (if bt323.2 = 0 then (chancerykeep1_SpanThroughContains.j2 k x0 x2 x3 bt316.1 bt323.1 (decide ((bt323.1.length : Int) > 1))) else (chancerykeep1_SpanThroughContains.j2 k x0 x2 x3 bt316.1 bt323.1 true)) else (chancerykeep1_SpanThroughContains.j2 k x0 x2 x3 bt316.1 bt323.1 true)))))
def chancerykeep1_SpanThroughContains.j2 : Nat → Int → Int → Int → List (S26) → List (S44) → Bool → Option (Bool)
 | 0, _, _, _, _, _, _ => none
 | k + 1, x0, x2, x3, x12, x14, x75 => if x75 = true then (some false) else (chancerykeep1_SpanThroughContains.l1 k x0 x2 x3 x12 x14 (x12.length : Int) 0)
def chancerykeep1_SpanThroughContains.l1 : Nat → Int → Int → Int → List (S26) → List (S44) → Int → Int → Option (Bool)
 | 0, _, _, _, _, _, _, _ => none
 | k + 1, x0, x2, x3, x12, x14, x77, x78 => if x78 < x77 then (if 0 ≤ x78 then (if x78 < (x12.length : Int) then (if (x14.length : Int) = 1 then (if 0 < (x14.length : Int) then (if x78 ≥ ((rd_T44 x14 0).f0) then ((chanceryref1_In.f (wrap64 (((rd_T26 x12 x78).f0) - 97)) 0 (wrap64 (x0 - 1))).bind fun t330 => (if t330 = true then (if (wrap64 (((rd_T26 x12 x78).f0) - 97)) ≥ x2 then (if ((decide (x78 < ((rd_T44 x14 0).f1))) != (decide ((wrap64 (((rd_T26 x12 x78).f0) - 97)) < x3))) = true then (some false) else (chancerykeep1_SpanThroughContains.l1 k x0 x2 x3 x12 x14 x77 (wrap64 (x78 + 1)))) else (if ((decide (x78 < ((rd_T44 x14 0).f1))) != false) = true then (some false) else (chancerykeep1_SpanThroughContains.l1 k x0 x2 x3 x12 x14 x77 (wrap64 (x78 + 1))))) else (chancerykeep1_SpanThroughContains.l1 k x0 x2 x3 x12 x14 x77 (wrap64 (x78 + 1))))) else ((chanceryref1_In.f (wrap64 (((rd_T26 x12 x78).f0) - 97)) 0 (wrap64 (x0 - 1))).bind fun t331 => (if t331 = true then (if (wrap64 (((rd_T26 x12 x78).f0) - 97)) ≥ x2 then (if (false != (decide ((wrap64 (((rd_T26 x12 x78).f0) - 97)) < x3))) = true then (some false) else (chancerykeep1_SpanThroughContains.l1 k x0 x2 x3 x12 x14 x77 (wrap64 (x78 + 1)))) else (if (false != false) = true then (some false) else (chancerykeep1_SpanThroughContains.l1 k x0 x2 x3 x12 x14 x77 (wrap64 (x78 + 1))))) else (chancerykeep1_SpanThroughContains.l1 k x0 x2 x3 x12 x14 x77 (wrap64 (x78 + 1)))))) else (none)) else ((chanceryref1_In.f (wrap64 (((rd_T26 x12 x78).f0) - 97)) 0 (wrap64 (x0 - 1))).bind fun t332 => (if t332 = true then (if (wrap64 (((rd_T26 x12 x78).f0) - 97)) ≥ x2 then (if (false != (decide ((wrap64 (((rd_T26 x12 x78).f0) - 97)) < x3))) = true then (some false) else (chancerykeep1_SpanThroughContains.l1 k x0 x2 x3 x12 x14 x77 (wrap64 (x78 + 1)))) else (if (false != false) = true then (some false) else (chancerykeep1_SpanThroughContains.l1 k x0 x2 x3 x12 x14 x77 (wrap64 (x78 + 1))))) else (chancerykeep1_SpanThroughContains.l1 k x0 x2 x3 x12 x14 x77 (wrap64 (x78 + 1)))))) else (none)) else (none)) else (some true)
end
def chancerykeep1_SpanThroughContains.f (k : Nat) (a0 : Int) (l1 : List Int) (a2 : Int) (a3 : Int) : Option (Bool) := (chancerykeep1_spans.f k).bind fun t305 => (if t305 = true then ((chancerykeep1_deltas.f).bind fun t306 => (chancerykeep1_SpanThroughContains.j0 k a0 l1 a2 a3 (!t306))) else (chancerykeep1_SpanThroughContains.j0 k a0 l1 a2 a3 true))
set_option maxHeartbeats 8000000 in
set_option maxRecDepth 100000 in
theorem chancerykeep1_SpanThroughContains.calls (k : Nat) (a0 : Int) (A1 : Option Addr) (c1 : Nat) (l1 : List Int) (a2 : Int) (a3 : Int) (r : Bool) (w : World) (hr1 : Kd.C (Kd.int .i64) w A1 l1.length l1) (hc1 : l1.length ≤ c1) (h : chancerykeep1_SpanThroughContains.f k a0 l1 a2 a3 = some r) :
  Calls Try.prog 4 #[.int .i64 a0, .slice A1 l1.length c1, .int .i64 a2, .int .i64 a3] w fun e w' => e = .returned (.bool r) ∧ Below w.heap.size w w' := by
 have hu26 := Try.underlying26
 have hu44 := Try.underlying44
 have HR1 := Aside0.mk hr1
 have HC1 := Aside0.mk hc1
 clear hr1 hc1
 have HB := Aside0.mk (Below.refl w.heap.size w)
 have H : ((chancerykeep1_spans.f k).bind fun t305 => (if t305 = true then ((chancerykeep1_deltas.f).bind fun t306 => (chancerykeep1_SpanThroughContains.j0 k a0 l1 a2 a3 (!t306))) else (chancerykeep1_SpanThroughContains.j0 k a0 l1 a2 a3 true))) = some r := h
 clear h
 have HC5 := Aside0.mk H
 clear H
 go_enter Try.func4, Try.ntmps4
 go_upto_region 1 with (fail)
 go_cut [24] (fun v24 wc => ∃ (kq : Nat) (x24_4 : Bool), v24 = .bool x24_4 ∧ Aside0 (chancerykeep1_SpanThroughContains.j0 kq a0 l1 a2 a3 x24_4 = some r) ∧ Aside0 (kq ≤ k) ∧ Aside0 (Below w.heap.size w wc))
 case first =>
  have H := HC5.out
  clear HC5
  replace H := Option.bind_eq_some_iff.mp H
  obtain ⟨t305, A60, H⟩ := H
  replace H : (if t305 = true then ((chancerykeep1_deltas.f).bind fun t306 => (chancerykeep1_SpanThroughContains.j0 k a0 l1 a2 a3 (!t306))) else (chancerykeep1_SpanThroughContains.j0 k a0 l1 a2 a3 true)) = some r := H
  have A6 := Aside0.mk A60
  clear A60
  by_cases c7 : t305 = true
  ·subst c7
   have H1 : ((chancerykeep1_deltas.f).bind fun t306 => (chancerykeep1_SpanThroughContains.j0 k a0 l1 a2 a3 (!t306))) = some r := by rw [if_pos rfl] at H; exact H
   clear H
   have H := H1
   clear H1
   replace H := Option.bind_eq_some_iff.mp H
   obtain ⟨t306, A80, H⟩ := H
   replace H : (chancerykeep1_SpanThroughContains.j0 k a0 l1 a2 a3 (!t306)) = some r := H
   have A8 := Aside0.mk A80
   clear A80
   have H' := Aside0.mk H
   clear H
   go_wp2_with (first | ((with_reducible refine gate_callee (f := 19) rfl ?_); refine goesL_ (some 19) rfl rfl Try.func19 (by kernel_rfl) rfl #[] rfl (by (try simp only [List.map_toArray, List.map_cons, List.map_nil]); first | done | rfl | (simp only [List.length_drop, List.length_take]; rfl)) ?_; (with_reducible refine (chancerykeep1_spans.calls k  true _ A6.out).mono ?_); rintro e w9 ⟨rfl, hb⟩; refine ⟨_, rfl, ?_⟩; replace HB := Aside0.mk (below_step (by with_reducible repeat first | exact HB.out | apply below_alloc | apply pw_below_drewN | apply below_drew1) hb); (try clear hb); (try clear hb2); (try clear hk); (try clear hi)) | (go_at_call 13; (with_reducible refine (chancerykeep1_deltas.calls  t306 _ A8.out).mono ?_); rintro e w10 ⟨rfl, hb⟩; replace HB := Aside0.mk (below_step (by with_reducible repeat first | exact HB.out | apply below_alloc | apply pw_below_drewN | apply below_drew1) hb); (try clear hb); (try clear hb2); (try clear hk); (try clear hi)))
   go_meet
   case rel => exact ⟨_, (!t306), (by first | rfl | (simp; done) | (simp [*]; done)), H', ⟨by first | omega | exact Nat.le_refl _⟩, ⟨by repeat (first | (with_reducible first | exact HB.out | apply below_alloc | apply pw_below_drewN | apply below_drew1) | exact HB.out)⟩⟩
  ·replace c7 := Bool.eq_false_iff.mpr c7
   subst c7
   have H1 : (chancerykeep1_SpanThroughContains.j0 k a0 l1 a2 a3 true) = some r := by rw [if_neg (show ¬ (false = true) by decide)] at H; exact H
   clear H
   have H := H1
   clear H1
   have H' := Aside0.mk H
   clear H
   go_wp2_with (first | ((with_reducible refine gate_callee (f := 19) rfl ?_); refine goesL_ (some 19) rfl rfl Try.func19 (by kernel_rfl) rfl #[] rfl (by (try simp only [List.map_toArray, List.map_cons, List.map_nil]); first | done | rfl | (simp only [List.length_drop, List.length_take]; rfl)) ?_; (with_reducible refine (chancerykeep1_spans.calls k  false _ A6.out).mono ?_); rintro e w11 ⟨rfl, hb⟩; refine ⟨_, rfl, ?_⟩; replace HB := Aside0.mk (below_step (by with_reducible repeat first | exact HB.out | apply below_alloc | apply pw_below_drewN | apply below_drew1) hb); (try clear hb); (try clear hb2); (try clear hk); (try clear hi)))
   go_meet
   case rel => exact ⟨_, (true), (by first | rfl | (simp; done) | (simp [*]; done)), H', ⟨by first | omega | exact Nat.le_refl _⟩, ⟨by repeat (first | (with_reducible first | exact HB.out | apply below_alloc | apply pw_below_drewN | apply below_drew1) | exact HB.out)⟩⟩
 case rest =>
  clear HC5
  try clear c1
  try clear p1
  try clear p2
  try clear c4
  try clear c7
  obtain ⟨kq, x24_4, rfl, HA, HJ4, HB⟩ := hcut
  cases kq with
  | zero => exact absurd HA.out (by simp [chancerykeep1_SpanThroughContains.j0])
  | succ kj4 =>
   have H := HA.out
   clear HA
   simp only [chancerykeep1_SpanThroughContains.j0] at H
   by_cases c12 : x24_4 = true
   ·subst c12
    have H1 : (some false) = some r := by rw [if_pos rfl] at H; exact H
    clear H
    have H := H1
    clear H1
    obtain rfl := Option.some.inj H
    go_wp2
    go_ret
    exact ⟨by first | rfl | (simp [errW_none, errW_some] <;> rfl) | (simp [*, errW_none, errW_some] <;> rfl), by repeat (first | (with_reducible first | exact HB.out | apply below_alloc | apply pw_below_drewN | apply below_drew1) | exact HB.out)⟩
   ·replace c12 := Bool.eq_false_iff.mpr c12
    subst c12
    have H1 : ((chanceryref1_Within.f a0 1 26).bind fun t307 => ((chanceryref1_Within.f a2 0 (wrap64 (t307 - 1))).bind fun t308 => ((chanceryref1_Within.f a3 (wrap64 (t308 + 1)) t307).bind fun t309 => (chancerykeep1_SpanThroughContains.l0 kj4 t307 l1 t308 t309 ([] : List (S26)) t307 0)))) = some r := by rw [if_neg (show ¬ (false = true) by decide)] at H; exact H
    clear H
    have H := H1
    clear H1
    replace H := Option.bind_eq_some_iff.mp H
    obtain ⟨t307, A130, H⟩ := H
    replace H : ((chanceryref1_Within.f a2 0 (wrap64 (t307 - 1))).bind fun t308 => ((chanceryref1_Within.f a3 (wrap64 (t308 + 1)) t307).bind fun t309 => (chancerykeep1_SpanThroughContains.l0 kj4 t307 l1 t308 t309 ([] : List (S26)) t307 0))) = some r := H
    have A13 := Aside0.mk A130
    clear A130
    replace H := Option.bind_eq_some_iff.mp H
    obtain ⟨t308, A140, H⟩ := H
    replace H : ((chanceryref1_Within.f a3 (wrap64 (t308 + 1)) t307).bind fun t309 => (chancerykeep1_SpanThroughContains.l0 kj4 t307 l1 t308 t309 ([] : List (S26)) t307 0)) = some r := H
    have A14 := Aside0.mk A140
    clear A140
    replace H := Option.bind_eq_some_iff.mp H
    obtain ⟨t309, A150, H⟩ := H
    replace H : (chancerykeep1_SpanThroughContains.l0 kj4 t307 l1 t308 t309 ([] : List (S26)) t307 0) = some r := H
    have A15 := Aside0.mk A150
    clear A150
    have H' := Aside0.mk H
    clear H
    go_wp2_with (first | ((with_reducible refine gate_callee (f := 20) rfl ?_); refine goesL_ (some 26) rfl rfl Try.func20 (by kernel_rfl) rfl #[.int .i64 a0, .int .i64 1, .int .i64 26] rfl (by (try simp only [List.map_toArray, List.map_cons, List.map_nil]); first | done | rfl | (simp only [List.length_drop, List.length_take]; rfl)) ?_; (with_reducible refine (chanceryref1_Within.calls a0 1 26 t307 _ A13.out).mono ?_); rintro e w' ⟨rfl, ⟨nd, rfl⟩⟩; refine ⟨_, rfl, ?_⟩) | ((with_reducible refine gate_callee (f := 20) rfl ?_); refine goesL_ (some 30) rfl rfl Try.func20 (by kernel_rfl) rfl #[.int .i64 a2, .int .i64 0, .int .i64 (wrap64 (t307 - 1))] rfl (by (try simp only [List.map_toArray, List.map_cons, List.map_nil]); first | done | rfl | (simp only [List.length_drop, List.length_take]; rfl)) ?_; (with_reducible refine (chanceryref1_Within.calls a2 0 (wrap64 (t307 - 1)) t308 _ A14.out).mono ?_); rintro e w' ⟨rfl, ⟨nd, rfl⟩⟩; refine ⟨_, rfl, ?_⟩) | ((with_reducible refine gate_callee (f := 20) rfl ?_); refine goesL_ (some 35) rfl rfl Try.func20 (by kernel_rfl) rfl #[.int .i64 a3, .int .i64 (wrap64 (t308 + 1)), .int .i64 t307] rfl (by (try simp only [List.map_toArray, List.map_cons, List.map_nil]); first | done | rfl | (simp only [List.length_drop, List.length_take]; rfl)) ?_; (with_reducible refine (chanceryref1_Within.calls a3 (wrap64 (t308 + 1)) t307 t309 _ A15.out).mono ?_); rintro e w' ⟨rfl, ⟨nd, rfl⟩⟩; refine ⟨_, rfl, ?_⟩))
    go_loopg [9, 37] kj4 (fun kq v9 v37 w' => ∃ (x9_2 : List (S26)) (x37_2 : Int), v37 = .int .i64 x37_2 ∧ Aside0 (chancerykeep1_SpanThroughContains.l0 kq t307 l1 t308 t309 x9_2 t307 x37_2 = some r) ∧ Aside0 (kq ≤ kj4) ∧ Aside0 (Kd.N k26 26 w' w.heap.size (fun _ => True) v9 x9_2) ∧ Aside0 (Below w.heap.size w w'))
    case atStart => exact ⟨(([] : List (S26))), (0), (by first | rfl | (simp; done) | (simp [*]; done)), H', ⟨Nat.le_refl _⟩, ⟨by first | exact Kd.S_nil _ _ _ _ _ | exact Kd.N_nil _ _ _ _ _ | exact Kd.V_nil _ _ _ _ _ | exact Kd.Q_nil _ _ _ _ _ | exact Kd.R_nil _ _ _ _ _⟩, ⟨by repeat (first | (with_reducible first | exact HB.out | apply below_alloc | apply pw_below_drewN | apply below_drew1) | exact HB.out)⟩⟩
    case round =>
     clear H'
     try clear c1
     try clear p1
     try clear c2
     try clear p2
     try clear c4
     try clear p6
     try clear c7
     try clear c12
     try clear p1
     try clear p2
     obtain ⟨x9_2, x37_2, rfl, HA, HK2, HO_9, HB⟩ := hrel
     cases gk with
     | zero => exact absurd HA.out (by simp [chancerykeep1_SpanThroughContains.l0])
     | succ k2 =>
      have H := HA.out
      clear HA
      simp only [chancerykeep1_SpanThroughContains.l0] at H
      by_cases c16 : x37_2 < t307
      ·rw [if_pos c16] at H
       have c16b0 : decide (x37_2 < t307) = true := decide_eq_true c16
       clear c16
       by_cases c17 : x9_2.length < 3518437208883
       ·rw [if_pos c17] at H
        have LMc17 := Aside0.mk c17
        clear c17
        obtain ⟨y310, hy310⟩ : ∃ y_ : List (S26), y_ = (x9_2 ++ [(⟨wrap64 (97 + x37_2), 0, ([] : List (S91))⟩ : S26)]) := ⟨_, rfl⟩
        replace H : (chancerykeep1_SpanThroughContains.l0 k2 t307 l1 t308 t309 y310 t307 (wrap64 (x37_2 + 1))) = some r := by first | (rw [hy310]; with_reducible exact H) | (have H2_ := (Option.bind_some _ _).symm.trans H; rw [hy310]; with_reducible exact H2_) | (have H2_ := (Option.bind_some _ _).symm.trans H; with_reducible exact H2_) | with_reducible exact H | (rw [hy310]; exact H) | exact H
        have Ny310 := Aside0.mk hy310
        clear hy310
        have H' := Aside0.mk H
        clear H
        go_wp2_with (first | ((with_reducible refine gate_builtin (b := .append) (xs := #[.tmp 40, .tmp 44]) rfl ?_); (try (refine gate_guard (by rfl) ?_; dsimp only)); at_builtin; refine Kd.N_append k26 (w0 := w) w.heap.size rfl (.tmp 40) (.tmp 44) 22 26 (.agg #[(.int .i64 0), (.int .i64 0), (.slice none 0 0)]) 40 rfl Try.underlying22 info26 rfl (by decide) (by omega) u9 x9_2 (⟨wrap64 (97 + x37_2), 0, ([] : List (S91))⟩ : S26) [.int .i64 (wrap64 (97 + x37_2)), .int .i64 0, .slice none 0 0] (fun _ => True) (fun k_ => ((fun _ => True)) k_ ∧ some k_ ≠ (u9 : Value).ownBlock) rfl rfl ?aP (fun _ hk => hk) ?aF ?aO ?aB ?aS ?aL ?_; (case aP => exact (k26_mkF _ _ (⟨wrap64 (97 + x37_2), 0, ([] : List (S91))⟩ : S26) (Nat.le_refl _) (Kd.F_nil _ _ _))); (case aB => exact (by with_reducible repeat first | exact HB.out | apply below_alloc | apply pw_below_drewN | apply below_drew1)); (case aF => exact (fun _ _ => trivial)); (case aO => exact (by (with_reducible repeat (first | apply Kd.N_alloc | apply Kd.N_drewN | apply Kd.N_drew)); exact HO_9.out)); (case aS => exact (below_size (by with_reducible repeat first | exact HB.out | apply below_alloc | apply pw_below_drewN | apply below_drew1))); (case aL => have := LMc17.out; omega); intro v311 w18 ho hb hg hat; rw [← Ny310.out] at ho; have n0_ := Aside0.mk (hb); have n1_ := Aside0.mk (ho); clear HB; clear HO_9; have HB := n0_; have HO312 := n1_; clear n0_ n1_; clear ho hb hg hat))
        go_roundg k2
        case measure => have := HJ4.out; have := HK2.out; omega
        case rel => exact ⟨(y310), (wrap64 (x37_2 + 1)), (by first | rfl | (simp; done) | (simp [*]; done)), H', ⟨by have := HJ4.out; have := HK2.out; omega⟩, ⟨by (with_reducible repeat (first | apply Kd.N_alloc | apply Kd.N_drewN | apply Kd.N_drew)); exact HO312.out⟩, ⟨by repeat (first | (with_reducible first | exact HB.out | apply below_alloc | apply pw_below_drewN | apply below_drew1) | exact HB.out)⟩⟩
       ·rw [if_neg c17] at H
        exact absurd H (by simp)
      ·rw [if_neg c16] at H
       have c16b0 : decide (x37_2 < t307) = false := decide_eq_false c16
       clear c16
       replace H := Option.bind_eq_some_iff.mp H
       obtain ⟨t313, A190, H⟩ := H
       replace H : ((delta_Apply.f k2 x9_2 t313).bind fun bt316 => ((span_Through.f k2 t313 (([(⟨t308, t309⟩ : S44)] : List (S44)))).bind fun bt323 => (if bt316.2 = 0 then (if bt323.2 = 0 then (chancerykeep1_SpanThroughContains.j2 k2 t307 t308 t309 bt316.1 bt323.1 (decide ((bt323.1.length : Int) > 1))) else (chancerykeep1_SpanThroughContains.j2 k2 t307 t308 t309 bt316.1 bt323.1 true)) else (chancerykeep1_SpanThroughContains.j2 k2 t307 t308 t309 bt316.1 bt323.1 true)))) = some r := H
       have A19 := Aside0.mk A190
       clear A190
       replace H := Option.bind_eq_some_iff.mp H
       obtain ⟨⟨t316, t319⟩, A200, H⟩ := H
       replace H : ((span_Through.f k2 t313 (([(⟨t308, t309⟩ : S44)] : List (S44)))).bind fun bt323 => (if t319 = 0 then (if bt323.2 = 0 then (chancerykeep1_SpanThroughContains.j2 k2 t307 t308 t309 t316 bt323.1 (decide ((bt323.1.length : Int) > 1))) else (chancerykeep1_SpanThroughContains.j2 k2 t307 t308 t309 t316 bt323.1 true)) else (chancerykeep1_SpanThroughContains.j2 k2 t307 t308 t309 t316 bt323.1 true))) = some r := H
       have A20 := Aside0.mk A200
       clear A200
       obtain ⟨y320, hy320⟩ : ∃ y_ : List (S44), y_ = (([(⟨t308, t309⟩ : S44)] : List (S44))) := ⟨_, rfl⟩
       replace H : ((span_Through.f k2 t313 y320).bind fun bt323 => (if t319 = 0 then (if bt323.2 = 0 then (chancerykeep1_SpanThroughContains.j2 k2 t307 t308 t309 t316 bt323.1 (decide ((bt323.1.length : Int) > 1))) else (chancerykeep1_SpanThroughContains.j2 k2 t307 t308 t309 t316 bt323.1 true)) else (chancerykeep1_SpanThroughContains.j2 k2 t307 t308 t309 t316 bt323.1 true))) = some r := by first | (rw [hy320]; with_reducible exact H) | (have H2_ := (Option.bind_some _ _).symm.trans H; rw [hy320]; with_reducible exact H2_) | (have H2_ := (Option.bind_some _ _).symm.trans H; with_reducible exact H2_) | with_reducible exact H | (rw [hy320]; exact H) | exact H
       have Ny320 := Aside0.mk hy320
       clear hy320
       replace H := Option.bind_eq_some_iff.mp H
       obtain ⟨⟨t323, t324⟩, A210, H⟩ := H
       replace H : (if t319 = 0 then (if t324 = 0 then (chancerykeep1_SpanThroughContains.j2 k2 t307 t308 t309 t316 t323 (decide ((t323.length : Int) > 1))) else (chancerykeep1_SpanThroughContains.j2 k2 t307 t308 t309 t316 t323 true)) else (chancerykeep1_SpanThroughContains.j2 k2 t307 t308 t309 t316 t323 true)) = some r := H
       have A21 := Aside0.mk A210
       clear A210
       have HC22 := Aside0.mk H
       clear H
       go_upto_region 15 with (first | ((with_reducible refine gate_callee (f := 21) rfl ?_); refine goesL_ (some 49) rfl rfl Try.func21 (by kernel_rfl) rfl #[.int .i64 t307, .slice A1 l1.length c1, .string (⟨#[120]⟩ : ByteArray)] rfl (by (try simp only [List.map_toArray, List.map_cons, List.map_nil]); first | done | rfl | (simp only [List.length_drop, List.length_take]; rfl)) ?_; (with_reducible refine (chancerykeep1_change.calls t307 _ _ l1 (⟨#[120]⟩ : ByteArray) t313 _ ?side1 ?side2 A19.out).mono ?_); (case side1 => repeat (first | exact (Kd.C_below HR1.out HB.out) | (with_reducible refine Kd.C_alloc ?_ _) | (with_reducible refine Kd.C_drewN ?_ _) | (with_reducible refine Kd.C_drew ?_))); (case side2 => exact HC1.out); rintro e w23 ⟨v314, rfl, ho0, hb⟩; refine ⟨_, rfl, ?_⟩; have n0_ := Aside0.mk (Kd.N_elder' (by (with_reducible repeat (first | apply Kd.N_alloc | apply Kd.N_drewN | apply Kd.N_drew)); exact HO_9.out) (Kd.N_base (by first | exact ho0 | exact Kd.S_N ho0)) hb); have n1_ := Aside0.mk (Kd.N_lower (Kd.N_mono (ok' := fun k_ => True) ho0 (fun k_ hk_ => trivial)) (below_size (by with_reducible repeat first | exact HB.out | apply below_alloc | apply pw_below_drewN | apply below_drew1))); have n2_ := Aside0.mk (below_step (by with_reducible repeat first | exact HB.out | apply below_alloc | apply pw_below_drewN | apply below_drew1) hb); clear HO_9; clear HB; have HO_9 := n0_; have HO315 := n1_; have HB := n2_; clear n0_ n1_ n2_; (try clear hb); (try clear hb2); (try clear hk); (try clear hi); (try clear ho0); obtain ⟨Ao24, co24, eo24⟩ := Kd.N_slice HO_9.out; subst eo24; obtain ⟨Ao25, co25, eo25⟩ := Kd.N_slice HO315.out; subst eo25) | ((with_reducible refine gate_callee (f := 22) rfl ?_); refine goesL_ (some 53) rfl rfl Try.func22 (by kernel_rfl) rfl #[.slice Ao24 x9_2.length co24, .slice Ao25 t313.length co25] rfl (by (try simp only [List.map_toArray, List.map_cons, List.map_nil]); first | done | rfl | (simp only [List.length_drop, List.length_take]; rfl)) ?_; (with_reducible refine (delta_Apply.calls k2 (fun k_ => (True ∧ some k_ ≠ (.slice Ao25 t313.length co25 : Value).ownBlock)) _ _ x9_2 _ _ t313 t316 t319 _ ?side1 ?side2 ?side3 A20.out).mono ?_); (case side1 => exact Kd.N_V (HO_9.out)); (case side2 => repeat (first | exact (Kd.N_reads' HO315.out).2.2 | (with_reducible refine Kd.C_alloc ?_ _) | (with_reducible refine Kd.C_drewN ?_ _) | (with_reducible refine Kd.C_drew ?_))); (case side3 => exact (Kd.N_reads' HO315.out).2.1); rintro e w26 ⟨v317, rfl, ho0, hb⟩; refine ⟨_, rfl, ?_⟩; have n0_ := Aside0.mk (Kd.N_elder' (by (with_reducible repeat (first | apply Kd.N_alloc | apply Kd.N_drewN | apply Kd.N_drew)); exact HO_9.out) (Kd.N_base (by first | exact ho0 | exact Kd.S_N ho0)) hb); have n1_ := Aside0.mk (Kd.N_elder' (by (with_reducible repeat (first | apply Kd.N_alloc | apply Kd.N_drewN | apply Kd.N_drew)); exact HO315.out) (Kd.N_base (by first | exact ho0 | exact Kd.S_N ho0)) hb); have n2_ := Aside0.mk (Kd.N_lower (Kd.N_mono (ok' := fun k_ => some k_ ≠ (.slice Ao25 t313.length co25 : Value).ownBlock) ho0 (fun k_ hk_ => Or.elim hk_ (fun hs_ => hs_.2) (fun hn_ => (Kd.fresh' (Kd.N_lt (by (with_reducible repeat (first | apply Kd.N_alloc | apply Kd.N_drewN | apply Kd.N_drew)); exact HO315.out)) k_ hn_)))) (below_size (by with_reducible repeat first | exact HB.out | apply below_alloc | apply pw_below_drewN | apply below_drew1))); have n3_ := Aside0.mk (below_step (by with_reducible repeat first | exact HB.out | apply below_alloc | apply pw_below_drewN | apply below_drew1) hb); clear HO_9; clear HO315; clear HB; have HO_9 := n0_; have HO315 := n1_; have HO318 := n2_; have HB := n3_; clear n0_ n1_ n2_ n3_; (try clear hb); (try clear hb2); (try clear hk); (try clear hi); (try clear ho0)) | ((with_reducible refine gate_dst (N := 61) rfl ?_); (try (refine gate_guard (by rfl) ?_; dsimp only)); refine Kd.R_lit k44 _ 44 ?hg (N := 61) ?hd (xs := ([(⟨t308, t309⟩ : S44)] : List (S44))) (inner := [.int .i64 t308, .int .i64 t309]) (ok := fun _ => True) (okp := fun _ => True) ?hr ?hp (fun _ hk => hk) trivial (Below.refl _ _) (Nat.le_refl _) (by simp) ?_; (case hd => rfl); (case hg => rfl); (case hr => first | (go_simp; done) | (go_simp; rfl)); (case hp => exact (Reps.c2 (show Kd.M k44 _ _ _ (⟨t308, t309⟩ : S44) [.int .i64 t308, .int .i64 t309] from (k44_mkM _ _ _ (⟨t308, t309⟩ : S44) )) (Reps.none _ _))); intro v321 w27 ho28 hb hg_ hnew_; clear hg_ hnew_; (first | rw [← Ny320.out] at ho28 | (simp only [Int.reduceToNat] at ho28; rw [← Ny320.out] at ho28)); have n0_ := Aside0.mk (Kd.N_elder' (by (with_reducible repeat (first | apply Kd.N_alloc | apply Kd.N_drewN | apply Kd.N_drew)); exact HO_9.out) (Kd.R_base ho28) hb); have n1_ := Aside0.mk (Kd.N_elder' (by (with_reducible repeat (first | apply Kd.N_alloc | apply Kd.N_drewN | apply Kd.N_drew)); exact HO315.out) (Kd.R_base ho28) hb); have n2_ := Aside0.mk (Kd.N_elder' (by (with_reducible repeat (first | apply Kd.N_alloc | apply Kd.N_drewN | apply Kd.N_drew)); exact HO318.out) (Kd.R_base ho28) hb); have n3_ := Aside0.mk (Kd.R_lower ho28 (below_size (by with_reducible repeat first | exact HB.out | apply below_alloc | apply pw_below_drewN | apply below_drew1))); have n4_ := Aside0.mk (below_step (by with_reducible repeat first | exact HB.out | apply below_alloc | apply pw_below_drewN | apply below_drew1) hb); clear HO_9; clear HO315; clear HO318; clear HB; have HO_9 := n0_; have HO315 := n1_; have HO318 := n2_; have HO322 := n3_; have HB := n4_; clear n0_ n1_ n2_ n3_ n4_; clear hb ho28; obtain ⟨Ao29, co29, eo29⟩ := Kd.R_slice HO322.out; subst eo29) | ((with_reducible refine gate_callee (f := 23) rfl ?_); refine goesL_ (some 62) rfl rfl Try.func23 (by kernel_rfl) rfl #[.slice Ao25 t313.length co25, .slice Ao29 y320.length co29] rfl (by (try simp only [List.map_toArray, List.map_cons, List.map_nil]); first | done | rfl | (simp only [List.length_drop, List.length_take]; rfl)) ?_; (with_reducible refine (span_Through.calls k2 _ _ t313 _ _ y320 t323 t324 _ ?side1 ?side2 ?side3 ?side4 A21.out).mono ?_); (case side1 => repeat (first | exact (Kd.N_reads' HO315.out).2.2 | (with_reducible refine Kd.C_alloc ?_ _) | (with_reducible refine Kd.C_drewN ?_ _) | (with_reducible refine Kd.C_drew ?_))); (case side2 => exact (Kd.N_reads' HO315.out).2.1); (case side3 => repeat (first | exact (Kd.R_reads' HO322.out).2.2 | (with_reducible refine Kd.C_alloc ?_ _) | (with_reducible refine Kd.C_drewN ?_ _) | (with_reducible refine Kd.C_drew ?_))); (case side4 => exact (Kd.R_reads' HO322.out).2.1); rintro e w30 ⟨v325, rfl, ho0, hb⟩; refine ⟨_, rfl, ?_⟩; have n0_ := Aside0.mk (Kd.N_elder' (by (with_reducible repeat (first | apply Kd.N_alloc | apply Kd.N_drewN | apply Kd.N_drew)); exact HO_9.out) (Kd.R_base ho0) hb); have n1_ := Aside0.mk (Kd.N_elder' (by (with_reducible repeat (first | apply Kd.N_alloc | apply Kd.N_drewN | apply Kd.N_drew)); exact HO315.out) (Kd.R_base ho0) hb); have n2_ := Aside0.mk (Kd.N_elder' (by (with_reducible repeat (first | apply Kd.N_alloc | apply Kd.N_drewN | apply Kd.N_drew)); exact HO318.out) (Kd.R_base ho0) hb); have n3_ := Aside0.mk (Kd.R_elder' (by (with_reducible repeat (first | apply Kd.R_alloc | apply Kd.R_drewN | apply Kd.R_drew)); exact HO322.out) (Kd.R_base ho0) hb); have n4_ := Aside0.mk (Kd.R_lower (Kd.R_new' ho0 (Kd.R_lt (by (with_reducible repeat (first | apply Kd.R_alloc | apply Kd.R_drewN | apply Kd.R_drew)); exact HO322.out))) (below_size (by with_reducible repeat first | exact HB.out | apply below_alloc | apply pw_below_drewN | apply below_drew1))); have n5_ := Aside0.mk (below_step (by with_reducible repeat first | exact HB.out | apply below_alloc | apply pw_below_drewN | apply below_drew1) hb); clear HO_9; clear HO315; clear HO318; clear HO322; clear HB; have HO_9 := n0_; have HO315 := n1_; have HO318 := n2_; have HO322 := n3_; have HO326 := n4_; have HB := n5_; clear n0_ n1_ n2_ n3_ n4_ n5_; (try clear hb); (try clear hb2); (try clear hk); (try clear hi); (try clear ho0)))
       (try simp only [Act.put, List.setIfInBounds_toArray, List.set_cons_zero, List.set_cons_succ])
       go_cut [75] (fun v75 wc => ∃ (kq : Nat) (x75_21 : Bool), v75 = .bool x75_21 ∧ Aside0 (chancerykeep1_SpanThroughContains.j2 kq t307 t308 t309 t316 t323 x75_21 = some r) ∧ Aside0 (kq ≤ k2) ∧ Aside0 (Kd.N k26 26 wc w.heap.size (fun k_ => some k_ ≠ (v325 : Value).ownBlock) v317 t316) ∧ Aside0 (Kd.R k44 44 wc w.heap.size (fun _ => True) v325 t323) ∧ Aside0 (Below w.heap.size w wc))
       case first =>
        have H := HC22.out
        clear HC22
        by_cases c31 : t319 = 0
        ·rw [if_pos c31] at H
         have c31b0 : (t319 == 0) = true := beq_iff_eq.mpr c31
         have c31b1 : (t319 != 0) = false := bne_eq_false_iff_eq.mpr c31
         clear c31
         (first | rw [c31b0] | (simp only [i64_w, i32_w]; rw [c31b0]) | skip)
         by_cases c32 : t324 = 0
         ·rw [if_pos c32] at H
          have c32b0 : (t324 == 0) = true := beq_iff_eq.mpr c32
          have c32b1 : (t324 != 0) = false := bne_eq_false_iff_eq.mpr c32
          clear c32
          have H' := Aside0.mk H
          clear H
          obtain ⟨Ao33, co33, eo33⟩ := Kd.R_slice HO326.out
          subst eo33
          go_wp2
          go_meet
          case rel => exact ⟨_, (decide ((t323.length : Int) > 1)), (by first | rfl | (simp; done) | (simp [*]; done)), H', ⟨by have := HJ4.out; have := HK2.out; first | omega | exact Nat.le_refl _⟩, ⟨by (with_reducible repeat (first | apply Kd.N_alloc | apply Kd.N_drewN | apply Kd.N_drew)); exact Kd.N_mono HO318.out (fun _ hk => hk.2)⟩, ⟨by (with_reducible repeat (first | apply Kd.R_alloc | apply Kd.R_drewN | apply Kd.R_drew)); exact Kd.R_mono HO326.out (fun _ hk => trivial)⟩, ⟨by repeat (first | (with_reducible first | exact HB.out | apply below_alloc | apply pw_below_drewN | apply below_drew1) | exact HB.out)⟩⟩
         ·rw [if_neg c32] at H
          have c32b0 : (t324 == 0) = false := beq_eq_false_iff_ne.mpr c32
          have c32b1 : (t324 != 0) = true := bne_iff_ne.mpr c32
          have H' := Aside0.mk H
          clear H
          go_wp2
          go_meet
          case rel => exact ⟨_, (true), (by first | rfl | (simp; done) | (simp [*]; done)), H', ⟨by have := HJ4.out; have := HK2.out; first | omega | exact Nat.le_refl _⟩, ⟨by (with_reducible repeat (first | apply Kd.N_alloc | apply Kd.N_drewN | apply Kd.N_drew)); exact Kd.N_mono HO318.out (fun _ hk => hk.2)⟩, ⟨by (with_reducible repeat (first | apply Kd.R_alloc | apply Kd.R_drewN | apply Kd.R_drew)); exact Kd.R_mono HO326.out (fun _ hk => trivial)⟩, ⟨by repeat (first | (with_reducible first | exact HB.out | apply below_alloc | apply pw_below_drewN | apply below_drew1) | exact HB.out)⟩⟩
        ·rw [if_neg c31] at H
         have c31b0 : (t319 == 0) = false := beq_eq_false_iff_ne.mpr c31
         have c31b1 : (t319 != 0) = true := bne_iff_ne.mpr c31
         (first | rw [c31b0] | (simp only [i64_w, i32_w]; rw [c31b0]) | skip)
         have H' := Aside0.mk H
         clear H
         go_wp2
         go_meet
         case rel => exact ⟨_, (true), (by first | rfl | (simp; done) | (simp [*]; done)), H', ⟨by have := HJ4.out; have := HK2.out; first | omega | exact Nat.le_refl _⟩, ⟨by (with_reducible repeat (first | apply Kd.N_alloc | apply Kd.N_drewN | apply Kd.N_drew)); exact Kd.N_mono HO318.out (fun _ hk => hk.2)⟩, ⟨by (with_reducible repeat (first | apply Kd.R_alloc | apply Kd.R_drewN | apply Kd.R_drew)); exact Kd.R_mono HO326.out (fun _ hk => trivial)⟩, ⟨by repeat (first | (with_reducible first | exact HB.out | apply below_alloc | apply pw_below_drewN | apply below_drew1) | exact HB.out)⟩⟩
       case rest =>
        clear HC22
        try clear c1
        try clear p1
        try clear c2
        try clear p2
        try clear c3
        try clear c4
        try clear p6
        try clear c7
        try clear c12
        try clear c16
        try clear c16b0
        try clear c17
        try clear c19
        try clear c20
        try clear c21
        try clear c22
        try clear c23
        try clear c31
        try clear c31b0
        try clear c31b1
        try clear c32
        try clear c32b0
        try clear c32b1
        try clear p1
        try clear p2
        try clear p6
        obtain ⟨kq, x75_21, rfl, HA, HJ21, HO_12, HO_14, HB⟩ := hcut
        cases kq with
        | zero => exact absurd HA.out (by simp [chancerykeep1_SpanThroughContains.j2])
        | succ kj21 =>
         have H := HA.out
         clear HA
         simp only [chancerykeep1_SpanThroughContains.j2] at H
         by_cases c34 : x75_21 = true
         ·subst c34
          have H1 : (some false) = some r := by rw [if_pos rfl] at H; exact H
          clear H
          have H := H1
          clear H1
          obtain rfl := Option.some.inj H
          go_wp2
          go_ret
          exact ⟨by first | rfl | (simp [errW_none, errW_some] <;> rfl) | (simp [*, errW_none, errW_some] <;> rfl), by repeat (first | (with_reducible first | exact HB.out | apply below_alloc | apply pw_below_drewN | apply below_drew1) | exact HB.out)⟩
         ·replace c34 := Bool.eq_false_iff.mpr c34
          subst c34
          have H1 : (chancerykeep1_SpanThroughContains.l1 kj21 t307 t308 t309 t316 t323 (t316.length : Int) 0) = some r := by rw [if_neg (show ¬ (false = true) by decide)] at H; exact H
          clear H
          have H := H1
          clear H1
          have H' := Aside0.mk H
          clear H
          obtain ⟨Ao35, co35, eo35⟩ := Kd.N_slice HO_12.out
          subst eo35
          go_wp2
          go_loopg [78] kj21 (fun kq v78 w' => ∃ (x78_4 : Int), v78 = .int .i64 x78_4 ∧ Aside0 (chancerykeep1_SpanThroughContains.l1 kq t307 t308 t309 t316 t323 (t316.length : Int) x78_4 = some r) ∧ Aside0 (kq ≤ kj21) ∧ Aside0 (Kd.N k26 26 w' w.heap.size (fun k_ => some k_ ≠ (v325 : Value).ownBlock) (.slice Ao35 t316.length co35) t316) ∧ Aside0 (Kd.R k44 44 w' w.heap.size (fun _ => True) v325 t323) ∧ Aside0 (Below w.heap.size w w'))
          case atStart => exact ⟨(0), (by first | rfl | (simp; done) | (simp [*]; done)), H', ⟨Nat.le_refl _⟩, ⟨by (with_reducible repeat (first | apply Kd.N_alloc | apply Kd.N_drewN | apply Kd.N_drew)); exact HO_12.out⟩, ⟨by (with_reducible repeat (first | apply Kd.R_alloc | apply Kd.R_drewN | apply Kd.R_drew)); exact HO_14.out⟩, ⟨by repeat (first | (with_reducible first | exact HB.out | apply below_alloc | apply pw_below_drewN | apply below_drew1) | exact HB.out)⟩⟩
          case round =>
           clear H'
           try clear c1
           try clear p1
           try clear c2
           try clear p2
           try clear c3
           try clear c4
           try clear p6
           try clear c7
           try clear c12
           try clear c16
           try clear c16b0
           try clear c17
           try clear c19
           try clear c20
           try clear c21
           try clear c22
           try clear c23
           try clear c31
           try clear c31b0
           try clear c31b1
           try clear c32
           try clear c32b0
           try clear c32b1
           try clear c34
           try clear p1
           try clear p2
           try clear p6
           obtain ⟨x78_4, rfl, HA, HK4, HO_12, HO_14, HB⟩ := hrel
           cases gk with
           | zero => exact absurd HA.out (by simp [chancerykeep1_SpanThroughContains.l1])
           | succ k4 =>
            have H := HA.out
            clear HA
            simp only [chancerykeep1_SpanThroughContains.l1] at H
            by_cases c36 : x78_4 < (t316.length : Int)
            ·rw [if_pos c36] at H
             have c36b0 : decide (x78_4 < (t316.length : Int)) = true := decide_eq_true c36
             clear c36
             by_cases c37 : 0 ≤ x78_4
             ·rw [if_pos c37] at H
              have c37b0 : decide (0 ≤ x78_4) = true := decide_eq_true c37
              clear c37
              by_cases c38 : x78_4 < (t316.length : Int)
              ·rw [if_pos c38] at H
               have c38b0 : decide (x78_4 < (t316.length : Int)) = true := decide_eq_true c38
               clear c38
               by_cases c39 : (t323.length : Int) = 1
               ·rw [if_pos c39] at H
                have c39b0 : ((t323.length : Int) == 1) = true := beq_iff_eq.mpr c39
                have c39b1 : ((t323.length : Int) != 1) = false := bne_eq_false_iff_eq.mpr c39
                clear c39
                by_cases c40 : 0 < (t323.length : Int)
                ·rw [if_pos c40] at H
                 have c40b0 : decide (0 < (t323.length : Int)) = true := decide_eq_true c40
                 have c40b1 : decide (0 < t323.length) = true := decide_eq_true (by omega)
                 clear c40
                 by_cases c41 : x78_4 ≥ ((rd_T44 t323 0).f0)
                 ·rw [if_pos c41] at H
                  have c41b0 : decide (((rd_T44 t323 0).f0) ≤ x78_4) = true := decide_eq_true c41
                  clear c41
                  replace H := Option.bind_eq_some_iff.mp H
                  obtain ⟨t330, A420, H⟩ := H
                  replace H : (if t330 = true then (if (wrap64 (((rd_T26 t316 x78_4).f0) - 97)) ≥ t308 then (if ((decide (x78_4 < ((rd_T44 t323 0).f1))) != (decide ((wrap64 (((rd_T26 t316 x78_4).f0) - 97)) < t309))) = true then (some false) else (chancerykeep1_SpanThroughContains.l1 k4 t307 t308 t309 t316 t323 (t316.length : Int) (wrap64 (x78_4 + 1)))) else (if ((decide (x78_4 < ((rd_T44 t323 0).f1))) != false) = true then (some false) else (chancerykeep1_SpanThroughContains.l1 k4 t307 t308 t309 t316 t323 (t316.length : Int) (wrap64 (x78_4 + 1))))) else (chancerykeep1_SpanThroughContains.l1 k4 t307 t308 t309 t316 t323 (t316.length : Int) (wrap64 (x78_4 + 1)))) = some r := H
                  have A42 := Aside0.mk A420
                  clear A420
                  by_cases c43 : t330 = true
                  ·subst c43
                   have H1 : (if (wrap64 (((rd_T26 t316 x78_4).f0) - 97)) ≥ t308 then (if ((decide (x78_4 < ((rd_T44 t323 0).f1))) != (decide ((wrap64 (((rd_T26 t316 x78_4).f0) - 97)) < t309))) = true then (some false) else (chancerykeep1_SpanThroughContains.l1 k4 t307 t308 t309 t316 t323 (t316.length : Int) (wrap64 (x78_4 + 1)))) else (if ((decide (x78_4 < ((rd_T44 t323 0).f1))) != false) = true then (some false) else (chancerykeep1_SpanThroughContains.l1 k4 t307 t308 t309 t316 t323 (t316.length : Int) (wrap64 (x78_4 + 1))))) = some r := by rw [if_pos rfl] at H; exact H
                   clear H
                   have H := H1
                   clear H1
                   by_cases c44 : (wrap64 (((rd_T26 t316 x78_4).f0) - 97)) ≥ t308
                   ·rw [if_pos c44] at H
                    have c44b0 : decide (t308 ≤ (wrap64 (((rd_T26 t316 x78_4).f0) - 97))) = true := decide_eq_true c44
                    clear c44
                    by_cases c45 : ((decide (x78_4 < ((rd_T44 t323 0).f1))) != (decide ((wrap64 (((rd_T26 t316 x78_4).f0) - 97)) < t309))) = true
                    ·rw [if_pos c45] at H
                     have c45b0 : ((decide (x78_4 < ((rd_T44 t323 0).f1))) != (decide ((wrap64 (((rd_T26 t316 x78_4).f0) - 97)) < t309))) = true := c45
                     (try (have c45b1 : decide ((decide (x78_4 < ((rd_T44 t323 0).f1))) = (decide ((wrap64 (((rd_T26 t316 x78_4).f0) - 97)) < t309))) = false := by simpa using c45))
                     (try (have c45b2 : ((decide (x78_4 < ((rd_T44 t323 0).f1))) == (decide ((wrap64 (((rd_T26 t316 x78_4).f0) - 97)) < t309))) = false := by simpa using c45))
                     (try (have c45b3 : ¬ ((decide (x78_4 < ((rd_T44 t323 0).f1))) = (decide ((wrap64 (((rd_T26 t316 x78_4).f0) - 97)) < t309))) := by simpa using c45))
                     clear c45
                     obtain rfl := Option.some.inj H
                     have p327 : 0 ≤ (x78_4 : Int) := of_decide_eq_true (by assumption)
                     have q327 : x78_4 < (t316.length : Int) := of_decide_eq_true (by assumption)
                     obtain ⟨ad327, A327_2, c327_2, e327, hx327_0, hx327_1, hx327_2, hl327_2, hi327_2⟩ := at_T26 (Kd.N_reads' HO_12.out).2.2 x78_4 p327 q327
                     cases e327
                     obtain ⟨ce327, hce327, hMe327, hcc327⟩ := Kd.N_get HO_12.out z26 x78_4 p327 (by first | exact q327 | exact of_decide_eq_true (by assumption) | (have e_ := (Kd.N_reads' HO_12.out).1; omega))
                     obtain ⟨ua327_2, uc327_2, rfl, ul327_2, ge327_2⟩ := k26_openF hMe327
                     have hv327_2 := hcc327 2 _ rfl
                     rw [add_field _ _ 2 (by omega)] at hv327_2
                     replace hv327_2 := Option.some.inj (hv327_2.symm.trans hx327_2)
                     injection hv327_2 with hva_ hvn_ hvc_
                     rw [hva_] at ge327_2
                     rw [hvc_] at ul327_2
                     have HL327_2 := Aside0.mk (show Kd.V k91 91 _ w.heap.size _ _ ((rd_T26 t316 x78_4).f2) from Kd.V_mk ul327_2 ge327_2)
                     clear hva_ hvn_ hvc_ ge327_2 ul327_2
                     clear hcc327 hce327
                     have HR327_2 := Aside0.mk hi327_2
                     have HC327_2 := Aside0.mk hl327_2
                     clear hi327_2 hl327_2
                     replace p327 := eq_true p327
                     replace q327 := eq_true q327
                     obtain ⟨Ao46, co46, eo46⟩ := Kd.R_slice HO_14.out
                     subst eo46
                     have p328 : 0 ≤ (0 : Int) := (by omega)
                     have q328 : 0 < (t323.length : Int) := of_decide_eq_true (by assumption)
                     obtain ⟨ad328, e328, hx328_0, hx328_1⟩ := at_T44 (Kd.R_reads' HO_14.out).2.2 0 p328 q328
                     cases e328
                     have qi328 : (0 < t323.length) = True := eq_true (by omega)
                     (try rw [show ((0 : Int)).toNat = 0 from rfl] at hx328_0)
                     (try rw [show 0 * 2 = 0 from rfl] at hx328_0)
                     (try rw [Addr.add_zero'] at hx328_0)
                     (try rw [show ((0 : Int)).toNat = 0 from rfl] at hx328_1)
                     (try rw [show 0 * 2 = 0 from rfl] at hx328_1)
                     (try rw [Addr.add_zero'] at hx328_1)
                     replace p328 := eq_true p328
                     replace q328 := eq_true q328
                     have p329 : 0 ≤ (0 : Int) := (by omega)
                     have q329 : 0 < (t323.length : Int) := of_decide_eq_true (by assumption)
                     obtain ⟨ad329, e329, hx329_0, hx329_1⟩ := at_T44 (Kd.R_reads' HO_14.out).2.2 0 p329 q329
                     obtain rfl : ad328 = ad329 := (by injection e329)
                     have qi329 : (0 < t323.length) = True := eq_true (by omega)
                     (try rw [show ((0 : Int)).toNat = 0 from rfl] at hx329_0)
                     (try rw [show 0 * 2 = 0 from rfl] at hx329_0)
                     (try rw [Addr.add_zero'] at hx329_0)
                     (try rw [show ((0 : Int)).toNat = 0 from rfl] at hx329_1)
                     (try rw [show 0 * 2 = 0 from rfl] at hx329_1)
                     (try rw [Addr.add_zero'] at hx329_1)
                     replace p329 := eq_true p329
                     replace q329 := eq_true q329
                     go_wp2_with (first | ((with_reducible refine gate_callee (f := 24) rfl ?_); refine goesL_ (some 109) rfl rfl Try.func24 (by kernel_rfl) rfl #[.int .i64 (wrap64 (((rd_T26 t316 x78_4).f0) - 97)), .int .i64 0, .int .i64 (wrap64 (t307 - 1))] rfl (by (try simp only [List.map_toArray, List.map_cons, List.map_nil]); first | done | rfl | (simp only [List.length_drop, List.length_take]; rfl)) ?_; (with_reducible refine (chanceryref1_In.calls (wrap64 (((rd_T26 t316 x78_4).f0) - 97)) 0 (wrap64 (t307 - 1)) true _ A42.out).mono ?_); rintro e w' ⟨rfl, ⟨nd, rfl⟩⟩; refine ⟨_, rfl, ?_⟩))
                     go_ret
                     exact ⟨by first | rfl | (simp [errW_none, errW_some] <;> rfl) | (simp [*, errW_none, errW_some] <;> rfl), by repeat (first | (with_reducible first | exact HB.out | apply below_alloc | apply pw_below_drewN | apply below_drew1) | exact HB.out)⟩
                    ·rw [if_neg c45] at H
                     have c45b0 : ((decide (x78_4 < ((rd_T44 t323 0).f1))) != (decide ((wrap64 (((rd_T26 t316 x78_4).f0) - 97)) < t309))) = false := by simpa using c45
                     (try (have c45b1 : decide ((decide (x78_4 < ((rd_T44 t323 0).f1))) = (decide ((wrap64 (((rd_T26 t316 x78_4).f0) - 97)) < t309))) = true := by simpa using c45))
                     (try (have c45b2 : ((decide (x78_4 < ((rd_T44 t323 0).f1))) == (decide ((wrap64 (((rd_T26 t316 x78_4).f0) - 97)) < t309))) = true := by simpa using c45))
                     clear c45
                     have H' := Aside0.mk H
                     clear H
                     have p327 : 0 ≤ (x78_4 : Int) := of_decide_eq_true (by assumption)
                     have q327 : x78_4 < (t316.length : Int) := of_decide_eq_true (by assumption)
                     obtain ⟨ad327, A327_2, c327_2, e327, hx327_0, hx327_1, hx327_2, hl327_2, hi327_2⟩ := at_T26 (Kd.N_reads' HO_12.out).2.2 x78_4 p327 q327
                     cases e327
                     obtain ⟨ce327, hce327, hMe327, hcc327⟩ := Kd.N_get HO_12.out z26 x78_4 p327 (by first | exact q327 | exact of_decide_eq_true (by assumption) | (have e_ := (Kd.N_reads' HO_12.out).1; omega))
                     obtain ⟨ua327_2, uc327_2, rfl, ul327_2, ge327_2⟩ := k26_openF hMe327
                     have hv327_2 := hcc327 2 _ rfl
                     rw [add_field _ _ 2 (by omega)] at hv327_2
                     replace hv327_2 := Option.some.inj (hv327_2.symm.trans hx327_2)
                     injection hv327_2 with hva_ hvn_ hvc_
                     rw [hva_] at ge327_2
                     rw [hvc_] at ul327_2
                     have HL327_2 := Aside0.mk (show Kd.V k91 91 _ w.heap.size _ _ ((rd_T26 t316 x78_4).f2) from Kd.V_mk ul327_2 ge327_2)
                     clear hva_ hvn_ hvc_ ge327_2 ul327_2
                     clear hcc327 hce327
                     have HR327_2 := Aside0.mk hi327_2
                     have HC327_2 := Aside0.mk hl327_2
                     clear hi327_2 hl327_2
                     replace p327 := eq_true p327
                     replace q327 := eq_true q327
                     obtain ⟨Ao47, co47, eo47⟩ := Kd.R_slice HO_14.out
                     subst eo47
                     have p328 : 0 ≤ (0 : Int) := (by omega)
                     have q328 : 0 < (t323.length : Int) := of_decide_eq_true (by assumption)
                     obtain ⟨ad328, e328, hx328_0, hx328_1⟩ := at_T44 (Kd.R_reads' HO_14.out).2.2 0 p328 q328
                     cases e328
                     have qi328 : (0 < t323.length) = True := eq_true (by omega)
                     (try rw [show ((0 : Int)).toNat = 0 from rfl] at hx328_0)
                     (try rw [show 0 * 2 = 0 from rfl] at hx328_0)
                     (try rw [Addr.add_zero'] at hx328_0)
                     (try rw [show ((0 : Int)).toNat = 0 from rfl] at hx328_1)
                     (try rw [show 0 * 2 = 0 from rfl] at hx328_1)
                     (try rw [Addr.add_zero'] at hx328_1)
                     replace p328 := eq_true p328
                     replace q328 := eq_true q328
                     have p329 : 0 ≤ (0 : Int) := (by omega)
                     have q329 : 0 < (t323.length : Int) := of_decide_eq_true (by assumption)
                     obtain ⟨ad329, e329, hx329_0, hx329_1⟩ := at_T44 (Kd.R_reads' HO_14.out).2.2 0 p329 q329
                     obtain rfl : ad328 = ad329 := (by injection e329)
                     have qi329 : (0 < t323.length) = True := eq_true (by omega)
                     (try rw [show ((0 : Int)).toNat = 0 from rfl] at hx329_0)
                     (try rw [show 0 * 2 = 0 from rfl] at hx329_0)
                     (try rw [Addr.add_zero'] at hx329_0)
                     (try rw [show ((0 : Int)).toNat = 0 from rfl] at hx329_1)
                     (try rw [show 0 * 2 = 0 from rfl] at hx329_1)
                     (try rw [Addr.add_zero'] at hx329_1)
                     replace p329 := eq_true p329
                     replace q329 := eq_true q329
                     go_wp2_with (first | ((with_reducible refine gate_callee (f := 24) rfl ?_); refine goesL_ (some 109) rfl rfl Try.func24 (by kernel_rfl) rfl #[.int .i64 (wrap64 (((rd_T26 t316 x78_4).f0) - 97)), .int .i64 0, .int .i64 (wrap64 (t307 - 1))] rfl (by (try simp only [List.map_toArray, List.map_cons, List.map_nil]); first | done | rfl | (simp only [List.length_drop, List.length_take]; rfl)) ?_; (with_reducible refine (chanceryref1_In.calls (wrap64 (((rd_T26 t316 x78_4).f0) - 97)) 0 (wrap64 (t307 - 1)) true _ A42.out).mono ?_); rintro e w' ⟨rfl, ⟨nd, rfl⟩⟩; refine ⟨_, rfl, ?_⟩))
                     go_roundg k4
                     case measure => have := HJ4.out; have := HK2.out; have := HJ21.out; have := HK4.out; omega
                     case rel => exact ⟨(wrap64 (x78_4 + 1)), (by first | rfl | (simp; done) | (simp [*]; done)), H', ⟨by have := HJ4.out; have := HK2.out; have := HJ21.out; have := HK4.out; omega⟩, ⟨by (with_reducible repeat (first | apply Kd.N_alloc | apply Kd.N_drewN | apply Kd.N_drew)); exact HO_12.out⟩, ⟨by (with_reducible repeat (first | apply Kd.R_alloc | apply Kd.R_drewN | apply Kd.R_drew)); exact HO_14.out⟩, ⟨by repeat (first | (with_reducible first | exact HB.out | apply below_alloc | apply pw_below_drewN | apply below_drew1) | exact HB.out)⟩⟩
                   ·rw [if_neg c44] at H
                    have c44b0 : decide (t308 ≤ (wrap64 (((rd_T26 t316 x78_4).f0) - 97))) = false := decide_eq_false c44
                    clear c44
                    by_cases c48 : ((decide (x78_4 < ((rd_T44 t323 0).f1))) != false) = true
                    ·rw [if_pos c48] at H
                     have c48b0 : ((decide (x78_4 < ((rd_T44 t323 0).f1))) != false) = true := c48
                     (try (have c48b1 : decide ((decide (x78_4 < ((rd_T44 t323 0).f1))) = false) = false := by simpa using c48))
                     (try (have c48b2 : ((decide (x78_4 < ((rd_T44 t323 0).f1))) == false) = false := by simpa using c48))
                     (try (have c48b3 : ¬ ((decide (x78_4 < ((rd_T44 t323 0).f1))) = false) := by simpa using c48))
                     clear c48
                     obtain rfl := Option.some.inj H
                     have p327 : 0 ≤ (x78_4 : Int) := of_decide_eq_true (by assumption)
                     have q327 : x78_4 < (t316.length : Int) := of_decide_eq_true (by assumption)
                     obtain ⟨ad327, A327_2, c327_2, e327, hx327_0, hx327_1, hx327_2, hl327_2, hi327_2⟩ := at_T26 (Kd.N_reads' HO_12.out).2.2 x78_4 p327 q327
                     cases e327
                     obtain ⟨ce327, hce327, hMe327, hcc327⟩ := Kd.N_get HO_12.out z26 x78_4 p327 (by first | exact q327 | exact of_decide_eq_true (by assumption) | (have e_ := (Kd.N_reads' HO_12.out).1; omega))
                     obtain ⟨ua327_2, uc327_2, rfl, ul327_2, ge327_2⟩ := k26_openF hMe327
                     have hv327_2 := hcc327 2 _ rfl
                     rw [add_field _ _ 2 (by omega)] at hv327_2
                     replace hv327_2 := Option.some.inj (hv327_2.symm.trans hx327_2)
                     injection hv327_2 with hva_ hvn_ hvc_
                     rw [hva_] at ge327_2
                     rw [hvc_] at ul327_2
                     have HL327_2 := Aside0.mk (show Kd.V k91 91 _ w.heap.size _ _ ((rd_T26 t316 x78_4).f2) from Kd.V_mk ul327_2 ge327_2)
                     clear hva_ hvn_ hvc_ ge327_2 ul327_2
                     clear hcc327 hce327
                     have HR327_2 := Aside0.mk hi327_2
                     have HC327_2 := Aside0.mk hl327_2
                     clear hi327_2 hl327_2
                     replace p327 := eq_true p327
                     replace q327 := eq_true q327
                     obtain ⟨Ao49, co49, eo49⟩ := Kd.R_slice HO_14.out
                     subst eo49
                     have p328 : 0 ≤ (0 : Int) := (by omega)
                     have q328 : 0 < (t323.length : Int) := of_decide_eq_true (by assumption)
                     obtain ⟨ad328, e328, hx328_0, hx328_1⟩ := at_T44 (Kd.R_reads' HO_14.out).2.2 0 p328 q328
                     cases e328
                     have qi328 : (0 < t323.length) = True := eq_true (by omega)
                     (try rw [show ((0 : Int)).toNat = 0 from rfl] at hx328_0)
                     (try rw [show 0 * 2 = 0 from rfl] at hx328_0)
                     (try rw [Addr.add_zero'] at hx328_0)
                     (try rw [show ((0 : Int)).toNat = 0 from rfl] at hx328_1)
                     (try rw [show 0 * 2 = 0 from rfl] at hx328_1)
                     (try rw [Addr.add_zero'] at hx328_1)
                     replace p328 := eq_true p328
                     replace q328 := eq_true q328
                     have p329 : 0 ≤ (0 : Int) := (by omega)
                     have q329 : 0 < (t323.length : Int) := of_decide_eq_true (by assumption)
                     obtain ⟨ad329, e329, hx329_0, hx329_1⟩ := at_T44 (Kd.R_reads' HO_14.out).2.2 0 p329 q329
                     obtain rfl : ad328 = ad329 := (by injection e329)
                     have qi329 : (0 < t323.length) = True := eq_true (by omega)
                     (try rw [show ((0 : Int)).toNat = 0 from rfl] at hx329_0)
                     (try rw [show 0 * 2 = 0 from rfl] at hx329_0)
                     (try rw [Addr.add_zero'] at hx329_0)
                     (try rw [show ((0 : Int)).toNat = 0 from rfl] at hx329_1)
                     (try rw [show 0 * 2 = 0 from rfl] at hx329_1)
                     (try rw [Addr.add_zero'] at hx329_1)
                     replace p329 := eq_true p329
                     replace q329 := eq_true q329
                     go_wp2_with (first | ((with_reducible refine gate_callee (f := 24) rfl ?_); refine goesL_ (some 109) rfl rfl Try.func24 (by kernel_rfl) rfl #[.int .i64 (wrap64 (((rd_T26 t316 x78_4).f0) - 97)), .int .i64 0, .int .i64 (wrap64 (t307 - 1))] rfl (by (try simp only [List.map_toArray, List.map_cons, List.map_nil]); first | done | rfl | (simp only [List.length_drop, List.length_take]; rfl)) ?_; (with_reducible refine (chanceryref1_In.calls (wrap64 (((rd_T26 t316 x78_4).f0) - 97)) 0 (wrap64 (t307 - 1)) true _ A42.out).mono ?_); rintro e w' ⟨rfl, ⟨nd, rfl⟩⟩; refine ⟨_, rfl, ?_⟩))
                     go_ret
                     exact ⟨by first | rfl | (simp [errW_none, errW_some] <;> rfl) | (simp [*, errW_none, errW_some] <;> rfl), by repeat (first | (with_reducible first | exact HB.out | apply below_alloc | apply pw_below_drewN | apply below_drew1) | exact HB.out)⟩
                    ·rw [if_neg c48] at H
                     have c48b0 : ((decide (x78_4 < ((rd_T44 t323 0).f1))) != false) = false := by simpa using c48
                     (try (have c48b1 : decide ((decide (x78_4 < ((rd_T44 t323 0).f1))) = false) = true := by simpa using c48))
                     (try (have c48b2 : ((decide (x78_4 < ((rd_T44 t323 0).f1))) == false) = true := by simpa using c48))
                     clear c48
                     have H' := Aside0.mk H
                     clear H
                     have p327 : 0 ≤ (x78_4 : Int) := of_decide_eq_true (by assumption)
                     have q327 : x78_4 < (t316.length : Int) := of_decide_eq_true (by assumption)
                     obtain ⟨ad327, A327_2, c327_2, e327, hx327_0, hx327_1, hx327_2, hl327_2, hi327_2⟩ := at_T26 (Kd.N_reads' HO_12.out).2.2 x78_4 p327 q327
                     cases e327
                     obtain ⟨ce327, hce327, hMe327, hcc327⟩ := Kd.N_get HO_12.out z26 x78_4 p327 (by first | exact q327 | exact of_decide_eq_true (by assumption) | (have e_ := (Kd.N_reads' HO_12.out).1; omega))
                     obtain ⟨ua327_2, uc327_2, rfl, ul327_2, ge327_2⟩ := k26_openF hMe327
                     have hv327_2 := hcc327 2 _ rfl
                     rw [add_field _ _ 2 (by omega)] at hv327_2
                     replace hv327_2 := Option.some.inj (hv327_2.symm.trans hx327_2)
                     injection hv327_2 with hva_ hvn_ hvc_
                     rw [hva_] at ge327_2
                     rw [hvc_] at ul327_2
                     have HL327_2 := Aside0.mk (show Kd.V k91 91 _ w.heap.size _ _ ((rd_T26 t316 x78_4).f2) from Kd.V_mk ul327_2 ge327_2)
                     clear hva_ hvn_ hvc_ ge327_2 ul327_2
                     clear hcc327 hce327
                     have HR327_2 := Aside0.mk hi327_2
                     have HC327_2 := Aside0.mk hl327_2
                     clear hi327_2 hl327_2
                     replace p327 := eq_true p327
                     replace q327 := eq_true q327
                     obtain ⟨Ao50, co50, eo50⟩ := Kd.R_slice HO_14.out
                     subst eo50
                     have p328 : 0 ≤ (0 : Int) := (by omega)
                     have q328 : 0 < (t323.length : Int) := of_decide_eq_true (by assumption)
                     obtain ⟨ad328, e328, hx328_0, hx328_1⟩ := at_T44 (Kd.R_reads' HO_14.out).2.2 0 p328 q328
                     cases e328
                     have qi328 : (0 < t323.length) = True := eq_true (by omega)
                     (try rw [show ((0 : Int)).toNat = 0 from rfl] at hx328_0)
                     (try rw [show 0 * 2 = 0 from rfl] at hx328_0)
                     (try rw [Addr.add_zero'] at hx328_0)
                     (try rw [show ((0 : Int)).toNat = 0 from rfl] at hx328_1)
                     (try rw [show 0 * 2 = 0 from rfl] at hx328_1)
                     (try rw [Addr.add_zero'] at hx328_1)
                     replace p328 := eq_true p328
                     replace q328 := eq_true q328
                     have p329 : 0 ≤ (0 : Int) := (by omega)
                     have q329 : 0 < (t323.length : Int) := of_decide_eq_true (by assumption)
                     obtain ⟨ad329, e329, hx329_0, hx329_1⟩ := at_T44 (Kd.R_reads' HO_14.out).2.2 0 p329 q329
                     obtain rfl : ad328 = ad329 := (by injection e329)
                     have qi329 : (0 < t323.length) = True := eq_true (by omega)
                     (try rw [show ((0 : Int)).toNat = 0 from rfl] at hx329_0)
                     (try rw [show 0 * 2 = 0 from rfl] at hx329_0)
                     (try rw [Addr.add_zero'] at hx329_0)
                     (try rw [show ((0 : Int)).toNat = 0 from rfl] at hx329_1)
                     (try rw [show 0 * 2 = 0 from rfl] at hx329_1)
                     (try rw [Addr.add_zero'] at hx329_1)
                     replace p329 := eq_true p329
                     replace q329 := eq_true q329
                     go_wp2_with (first | ((with_reducible refine gate_callee (f := 24) rfl ?_); refine goesL_ (some 109) rfl rfl Try.func24 (by kernel_rfl) rfl #[.int .i64 (wrap64 (((rd_T26 t316 x78_4).f0) - 97)), .int .i64 0, .int .i64 (wrap64 (t307 - 1))] rfl (by (try simp only [List.map_toArray, List.map_cons, List.map_nil]); first | done | rfl | (simp only [List.length_drop, List.length_take]; rfl)) ?_; (with_reducible refine (chanceryref1_In.calls (wrap64 (((rd_T26 t316 x78_4).f0) - 97)) 0 (wrap64 (t307 - 1)) true _ A42.out).mono ?_); rintro e w' ⟨rfl, ⟨nd, rfl⟩⟩; refine ⟨_, rfl, ?_⟩))
                     go_roundg k4
                     case measure => have := HJ4.out; have := HK2.out; have := HJ21.out; have := HK4.out; omega
                     case rel => exact ⟨(wrap64 (x78_4 + 1)), (by first | rfl | (simp; done) | (simp [*]; done)), H', ⟨by have := HJ4.out; have := HK2.out; have := HJ21.out; have := HK4.out; omega⟩, ⟨by (with_reducible repeat (first | apply Kd.N_alloc | apply Kd.N_drewN | apply Kd.N_drew)); exact HO_12.out⟩, ⟨by (with_reducible repeat (first | apply Kd.R_alloc | apply Kd.R_drewN | apply Kd.R_drew)); exact HO_14.out⟩, ⟨by repeat (first | (with_reducible first | exact HB.out | apply below_alloc | apply pw_below_drewN | apply below_drew1) | exact HB.out)⟩⟩
                  ·replace c43 := Bool.eq_false_iff.mpr c43
                   subst c43
                   have H1 : (chancerykeep1_SpanThroughContains.l1 k4 t307 t308 t309 t316 t323 (t316.length : Int) (wrap64 (x78_4 + 1))) = some r := by rw [if_neg (show ¬ (false = true) by decide)] at H; exact H
                   clear H
                   have H := H1
                   clear H1
                   have H' := Aside0.mk H
                   clear H
                   have p327 : 0 ≤ (x78_4 : Int) := of_decide_eq_true (by assumption)
                   have q327 : x78_4 < (t316.length : Int) := of_decide_eq_true (by assumption)
                   obtain ⟨ad327, A327_2, c327_2, e327, hx327_0, hx327_1, hx327_2, hl327_2, hi327_2⟩ := at_T26 (Kd.N_reads' HO_12.out).2.2 x78_4 p327 q327
                   cases e327
                   obtain ⟨ce327, hce327, hMe327, hcc327⟩ := Kd.N_get HO_12.out z26 x78_4 p327 (by first | exact q327 | exact of_decide_eq_true (by assumption) | (have e_ := (Kd.N_reads' HO_12.out).1; omega))
                   obtain ⟨ua327_2, uc327_2, rfl, ul327_2, ge327_2⟩ := k26_openF hMe327
                   have hv327_2 := hcc327 2 _ rfl
                   rw [add_field _ _ 2 (by omega)] at hv327_2
                   replace hv327_2 := Option.some.inj (hv327_2.symm.trans hx327_2)
                   injection hv327_2 with hva_ hvn_ hvc_
                   rw [hva_] at ge327_2
                   rw [hvc_] at ul327_2
                   have HL327_2 := Aside0.mk (show Kd.V k91 91 _ w.heap.size _ _ ((rd_T26 t316 x78_4).f2) from Kd.V_mk ul327_2 ge327_2)
                   clear hva_ hvn_ hvc_ ge327_2 ul327_2
                   clear hcc327 hce327
                   have HR327_2 := Aside0.mk hi327_2
                   have HC327_2 := Aside0.mk hl327_2
                   clear hi327_2 hl327_2
                   replace p327 := eq_true p327
                   replace q327 := eq_true q327
                   obtain ⟨Ao51, co51, eo51⟩ := Kd.R_slice HO_14.out
                   subst eo51
                   have p328 : 0 ≤ (0 : Int) := (by omega)
                   have q328 : 0 < (t323.length : Int) := of_decide_eq_true (by assumption)
                   obtain ⟨ad328, e328, hx328_0, hx328_1⟩ := at_T44 (Kd.R_reads' HO_14.out).2.2 0 p328 q328
                   cases e328
                   have qi328 : (0 < t323.length) = True := eq_true (by omega)
                   (try rw [show ((0 : Int)).toNat = 0 from rfl] at hx328_0)
                   (try rw [show 0 * 2 = 0 from rfl] at hx328_0)
                   (try rw [Addr.add_zero'] at hx328_0)
                   (try rw [show ((0 : Int)).toNat = 0 from rfl] at hx328_1)
                   (try rw [show 0 * 2 = 0 from rfl] at hx328_1)
                   (try rw [Addr.add_zero'] at hx328_1)
                   replace p328 := eq_true p328
                   replace q328 := eq_true q328
                   have p329 : 0 ≤ (0 : Int) := (by omega)
                   have q329 : 0 < (t323.length : Int) := of_decide_eq_true (by assumption)
                   obtain ⟨ad329, e329, hx329_0, hx329_1⟩ := at_T44 (Kd.R_reads' HO_14.out).2.2 0 p329 q329
                   obtain rfl : ad328 = ad329 := (by injection e329)
                   have qi329 : (0 < t323.length) = True := eq_true (by omega)
                   (try rw [show ((0 : Int)).toNat = 0 from rfl] at hx329_0)
                   (try rw [show 0 * 2 = 0 from rfl] at hx329_0)
                   (try rw [Addr.add_zero'] at hx329_0)
                   (try rw [show ((0 : Int)).toNat = 0 from rfl] at hx329_1)
                   (try rw [show 0 * 2 = 0 from rfl] at hx329_1)
                   (try rw [Addr.add_zero'] at hx329_1)
                   replace p329 := eq_true p329
                   replace q329 := eq_true q329
                   go_wp2_with (first | ((with_reducible refine gate_callee (f := 24) rfl ?_); refine goesL_ (some 109) rfl rfl Try.func24 (by kernel_rfl) rfl #[.int .i64 (wrap64 (((rd_T26 t316 x78_4).f0) - 97)), .int .i64 0, .int .i64 (wrap64 (t307 - 1))] rfl (by (try simp only [List.map_toArray, List.map_cons, List.map_nil]); first | done | rfl | (simp only [List.length_drop, List.length_take]; rfl)) ?_; (with_reducible refine (chanceryref1_In.calls (wrap64 (((rd_T26 t316 x78_4).f0) - 97)) 0 (wrap64 (t307 - 1)) false _ A42.out).mono ?_); rintro e w' ⟨rfl, ⟨nd, rfl⟩⟩; refine ⟨_, rfl, ?_⟩))
                   go_roundg k4
                   case measure => have := HJ4.out; have := HK2.out; have := HJ21.out; have := HK4.out; omega
                   case rel => exact ⟨(wrap64 (x78_4 + 1)), (by first | rfl | (simp; done) | (simp [*]; done)), H', ⟨by have := HJ4.out; have := HK2.out; have := HJ21.out; have := HK4.out; omega⟩, ⟨by (with_reducible repeat (first | apply Kd.N_alloc | apply Kd.N_drewN | apply Kd.N_drew)); exact HO_12.out⟩, ⟨by (with_reducible repeat (first | apply Kd.R_alloc | apply Kd.R_drewN | apply Kd.R_drew)); exact HO_14.out⟩, ⟨by repeat (first | (with_reducible first | exact HB.out | apply below_alloc | apply pw_below_drewN | apply below_drew1) | exact HB.out)⟩⟩
                 ·rw [if_neg c41] at H
                  have c41b0 : decide (((rd_T44 t323 0).f0) ≤ x78_4) = false := decide_eq_false c41
                  clear c41
                  replace H := Option.bind_eq_some_iff.mp H
                  obtain ⟨t331, A520, H⟩ := H
                  replace H : (if t331 = true then (if (wrap64 (((rd_T26 t316 x78_4).f0) - 97)) ≥ t308 then (if (false != (decide ((wrap64 (((rd_T26 t316 x78_4).f0) - 97)) < t309))) = true then (some false) else (chancerykeep1_SpanThroughContains.l1 k4 t307 t308 t309 t316 t323 (t316.length : Int) (wrap64 (x78_4 + 1)))) else (if (false != false) = true then (some false) else (chancerykeep1_SpanThroughContains.l1 k4 t307 t308 t309 t316 t323 (t316.length : Int) (wrap64 (x78_4 + 1))))) else (chancerykeep1_SpanThroughContains.l1 k4 t307 t308 t309 t316 t323 (t316.length : Int) (wrap64 (x78_4 + 1)))) = some r := H
                  have A52 := Aside0.mk A520
                  clear A520
                  by_cases c53 : t331 = true
                  ·subst c53
                   have H1 : (if (wrap64 (((rd_T26 t316 x78_4).f0) - 97)) ≥ t308 then (if (false != (decide ((wrap64 (((rd_T26 t316 x78_4).f0) - 97)) < t309))) = true then (some false) else (chancerykeep1_SpanThroughContains.l1 k4 t307 t308 t309 t316 t323 (t316.length : Int) (wrap64 (x78_4 + 1)))) else (if (false != false) = true then (some false) else (chancerykeep1_SpanThroughContains.l1 k4 t307 t308 t309 t316 t323 (t316.length : Int) (wrap64 (x78_4 + 1))))) = some r := by rw [if_pos rfl] at H; exact H
                   clear H
                   have H := H1
                   clear H1
                   by_cases c54 : (wrap64 (((rd_T26 t316 x78_4).f0) - 97)) ≥ t308
                   ·rw [if_pos c54] at H
                    have c54b0 : decide (t308 ≤ (wrap64 (((rd_T26 t316 x78_4).f0) - 97))) = true := decide_eq_true c54
                    clear c54
                    by_cases c55 : (false != (decide ((wrap64 (((rd_T26 t316 x78_4).f0) - 97)) < t309))) = true
                    ·rw [if_pos c55] at H
                     have c55b0 : (false != (decide ((wrap64 (((rd_T26 t316 x78_4).f0) - 97)) < t309))) = true := c55
                     (try (have c55b1 : decide (false = (decide ((wrap64 (((rd_T26 t316 x78_4).f0) - 97)) < t309))) = false := by simpa using c55))
                     (try (have c55b2 : (false == (decide ((wrap64 (((rd_T26 t316 x78_4).f0) - 97)) < t309))) = false := by simpa using c55))
                     (try (have c55b3 : ¬ (false = (decide ((wrap64 (((rd_T26 t316 x78_4).f0) - 97)) < t309))) := by simpa using c55))
                     clear c55
                     obtain rfl := Option.some.inj H
                     have p327 : 0 ≤ (x78_4 : Int) := of_decide_eq_true (by assumption)
                     have q327 : x78_4 < (t316.length : Int) := of_decide_eq_true (by assumption)
                     obtain ⟨ad327, A327_2, c327_2, e327, hx327_0, hx327_1, hx327_2, hl327_2, hi327_2⟩ := at_T26 (Kd.N_reads' HO_12.out).2.2 x78_4 p327 q327
                     cases e327
                     obtain ⟨ce327, hce327, hMe327, hcc327⟩ := Kd.N_get HO_12.out z26 x78_4 p327 (by first | exact q327 | exact of_decide_eq_true (by assumption) | (have e_ := (Kd.N_reads' HO_12.out).1; omega))
                     obtain ⟨ua327_2, uc327_2, rfl, ul327_2, ge327_2⟩ := k26_openF hMe327
                     have hv327_2 := hcc327 2 _ rfl
                     rw [add_field _ _ 2 (by omega)] at hv327_2
                     replace hv327_2 := Option.some.inj (hv327_2.symm.trans hx327_2)
                     injection hv327_2 with hva_ hvn_ hvc_
                     rw [hva_] at ge327_2
                     rw [hvc_] at ul327_2
                     have HL327_2 := Aside0.mk (show Kd.V k91 91 _ w.heap.size _ _ ((rd_T26 t316 x78_4).f2) from Kd.V_mk ul327_2 ge327_2)
                     clear hva_ hvn_ hvc_ ge327_2 ul327_2
                     clear hcc327 hce327
                     have HR327_2 := Aside0.mk hi327_2
                     have HC327_2 := Aside0.mk hl327_2
                     clear hi327_2 hl327_2
                     replace p327 := eq_true p327
                     replace q327 := eq_true q327
                     obtain ⟨Ao56, co56, eo56⟩ := Kd.R_slice HO_14.out
                     subst eo56
                     have p328 : 0 ≤ (0 : Int) := (by omega)
                     have q328 : 0 < (t323.length : Int) := of_decide_eq_true (by assumption)
                     obtain ⟨ad328, e328, hx328_0, hx328_1⟩ := at_T44 (Kd.R_reads' HO_14.out).2.2 0 p328 q328
                     cases e328
                     have qi328 : (0 < t323.length) = True := eq_true (by omega)
                     (try rw [show ((0 : Int)).toNat = 0 from rfl] at hx328_0)
                     (try rw [show 0 * 2 = 0 from rfl] at hx328_0)
                     (try rw [Addr.add_zero'] at hx328_0)
                     (try rw [show ((0 : Int)).toNat = 0 from rfl] at hx328_1)
                     (try rw [show 0 * 2 = 0 from rfl] at hx328_1)
                     (try rw [Addr.add_zero'] at hx328_1)
                     replace p328 := eq_true p328
                     replace q328 := eq_true q328
                     go_wp2_with (first | ((with_reducible refine gate_callee (f := 24) rfl ?_); refine goesL_ (some 109) rfl rfl Try.func24 (by kernel_rfl) rfl #[.int .i64 (wrap64 (((rd_T26 t316 x78_4).f0) - 97)), .int .i64 0, .int .i64 (wrap64 (t307 - 1))] rfl (by (try simp only [List.map_toArray, List.map_cons, List.map_nil]); first | done | rfl | (simp only [List.length_drop, List.length_take]; rfl)) ?_; (with_reducible refine (chanceryref1_In.calls (wrap64 (((rd_T26 t316 x78_4).f0) - 97)) 0 (wrap64 (t307 - 1)) true _ A52.out).mono ?_); rintro e w' ⟨rfl, ⟨nd, rfl⟩⟩; refine ⟨_, rfl, ?_⟩))
                     go_ret
                     exact ⟨by first | rfl | (simp [errW_none, errW_some] <;> rfl) | (simp [*, errW_none, errW_some] <;> rfl), by repeat (first | (with_reducible first | exact HB.out | apply below_alloc | apply pw_below_drewN | apply below_drew1) | exact HB.out)⟩
                    ·rw [if_neg c55] at H
                     have c55b0 : (false != (decide ((wrap64 (((rd_T26 t316 x78_4).f0) - 97)) < t309))) = false := by simpa using c55
                     (try (have c55b1 : decide (false = (decide ((wrap64 (((rd_T26 t316 x78_4).f0) - 97)) < t309))) = true := by simpa using c55))
                     (try (have c55b2 : (false == (decide ((wrap64 (((rd_T26 t316 x78_4).f0) - 97)) < t309))) = true := by simpa using c55))
                     clear c55
                     have H' := Aside0.mk H
                     clear H
                     have p327 : 0 ≤ (x78_4 : Int) := of_decide_eq_true (by assumption)
                     have q327 : x78_4 < (t316.length : Int) := of_decide_eq_true (by assumption)
                     obtain ⟨ad327, A327_2, c327_2, e327, hx327_0, hx327_1, hx327_2, hl327_2, hi327_2⟩ := at_T26 (Kd.N_reads' HO_12.out).2.2 x78_4 p327 q327
                     cases e327
                     obtain ⟨ce327, hce327, hMe327, hcc327⟩ := Kd.N_get HO_12.out z26 x78_4 p327 (by first | exact q327 | exact of_decide_eq_true (by assumption) | (have e_ := (Kd.N_reads' HO_12.out).1; omega))
                     obtain ⟨ua327_2, uc327_2, rfl, ul327_2, ge327_2⟩ := k26_openF hMe327
                     have hv327_2 := hcc327 2 _ rfl
                     rw [add_field _ _ 2 (by omega)] at hv327_2
                     replace hv327_2 := Option.some.inj (hv327_2.symm.trans hx327_2)
                     injection hv327_2 with hva_ hvn_ hvc_
                     rw [hva_] at ge327_2
                     rw [hvc_] at ul327_2
                     have HL327_2 := Aside0.mk (show Kd.V k91 91 _ w.heap.size _ _ ((rd_T26 t316 x78_4).f2) from Kd.V_mk ul327_2 ge327_2)
                     clear hva_ hvn_ hvc_ ge327_2 ul327_2
                     clear hcc327 hce327
                     have HR327_2 := Aside0.mk hi327_2
                     have HC327_2 := Aside0.mk hl327_2
                     clear hi327_2 hl327_2
                     replace p327 := eq_true p327
                     replace q327 := eq_true q327
                     obtain ⟨Ao57, co57, eo57⟩ := Kd.R_slice HO_14.out
                     subst eo57
                     have p328 : 0 ≤ (0 : Int) := (by omega)
                     have q328 : 0 < (t323.length : Int) := of_decide_eq_true (by assumption)
                     obtain ⟨ad328, e328, hx328_0, hx328_1⟩ := at_T44 (Kd.R_reads' HO_14.out).2.2 0 p328 q328
                     cases e328
                     have qi328 : (0 < t323.length) = True := eq_true (by omega)
                     (try rw [show ((0 : Int)).toNat = 0 from rfl] at hx328_0)
                     (try rw [show 0 * 2 = 0 from rfl] at hx328_0)
                     (try rw [Addr.add_zero'] at hx328_0)
                     (try rw [show ((0 : Int)).toNat = 0 from rfl] at hx328_1)
                     (try rw [show 0 * 2 = 0 from rfl] at hx328_1)
                     (try rw [Addr.add_zero'] at hx328_1)
                     replace p328 := eq_true p328
                     replace q328 := eq_true q328
                     go_wp2_with (first | ((with_reducible refine gate_callee (f := 24) rfl ?_); refine goesL_ (some 109) rfl rfl Try.func24 (by kernel_rfl) rfl #[.int .i64 (wrap64 (((rd_T26 t316 x78_4).f0) - 97)), .int .i64 0, .int .i64 (wrap64 (t307 - 1))] rfl (by (try simp only [List.map_toArray, List.map_cons, List.map_nil]); first | done | rfl | (simp only [List.length_drop, List.length_take]; rfl)) ?_; (with_reducible refine (chanceryref1_In.calls (wrap64 (((rd_T26 t316 x78_4).f0) - 97)) 0 (wrap64 (t307 - 1)) true _ A52.out).mono ?_); rintro e w' ⟨rfl, ⟨nd, rfl⟩⟩; refine ⟨_, rfl, ?_⟩))
                     go_roundg k4
                     case measure => have := HJ4.out; have := HK2.out; have := HJ21.out; have := HK4.out; omega
                     case rel => exact ⟨(wrap64 (x78_4 + 1)), (by first | rfl | (simp; done) | (simp [*]; done)), H', ⟨by have := HJ4.out; have := HK2.out; have := HJ21.out; have := HK4.out; omega⟩, ⟨by (with_reducible repeat (first | apply Kd.N_alloc | apply Kd.N_drewN | apply Kd.N_drew)); exact HO_12.out⟩, ⟨by (with_reducible repeat (first | apply Kd.R_alloc | apply Kd.R_drewN | apply Kd.R_drew)); exact HO_14.out⟩, ⟨by repeat (first | (with_reducible first | exact HB.out | apply below_alloc | apply pw_below_drewN | apply below_drew1) | exact HB.out)⟩⟩
                   ·rw [if_neg c54] at H
                    have c54b0 : decide (t308 ≤ (wrap64 (((rd_T26 t316 x78_4).f0) - 97))) = false := decide_eq_false c54
                    clear c54
                    by_cases c58 : (false != false) = true
                    ·exact absurd c58 (by decide)
                    ·rw [if_neg c58] at H
                     have c58b0 : (false != false) = false := by simp
                     (try (have c58b1 : decide (false = false) = true := by simp))
                     (try (have c58b2 : (false == false) = true := by simp))
                     clear c58
                     have H' := Aside0.mk H
                     clear H
                     have p327 : 0 ≤ (x78_4 : Int) := of_decide_eq_true (by assumption)
                     have q327 : x78_4 < (t316.length : Int) := of_decide_eq_true (by assumption)
                     obtain ⟨ad327, A327_2, c327_2, e327, hx327_0, hx327_1, hx327_2, hl327_2, hi327_2⟩ := at_T26 (Kd.N_reads' HO_12.out).2.2 x78_4 p327 q327
                     cases e327
                     obtain ⟨ce327, hce327, hMe327, hcc327⟩ := Kd.N_get HO_12.out z26 x78_4 p327 (by first | exact q327 | exact of_decide_eq_true (by assumption) | (have e_ := (Kd.N_reads' HO_12.out).1; omega))
                     obtain ⟨ua327_2, uc327_2, rfl, ul327_2, ge327_2⟩ := k26_openF hMe327
                     have hv327_2 := hcc327 2 _ rfl
                     rw [add_field _ _ 2 (by omega)] at hv327_2
                     replace hv327_2 := Option.some.inj (hv327_2.symm.trans hx327_2)
                     injection hv327_2 with hva_ hvn_ hvc_
                     rw [hva_] at ge327_2
                     rw [hvc_] at ul327_2
                     have HL327_2 := Aside0.mk (show Kd.V k91 91 _ w.heap.size _ _ ((rd_T26 t316 x78_4).f2) from Kd.V_mk ul327_2 ge327_2)
                     clear hva_ hvn_ hvc_ ge327_2 ul327_2
                     clear hcc327 hce327
                     have HR327_2 := Aside0.mk hi327_2
                     have HC327_2 := Aside0.mk hl327_2
                     clear hi327_2 hl327_2
                     replace p327 := eq_true p327
                     replace q327 := eq_true q327
                     obtain ⟨Ao60, co60, eo60⟩ := Kd.R_slice HO_14.out
                     subst eo60
                     have p328 : 0 ≤ (0 : Int) := (by omega)
                     have q328 : 0 < (t323.length : Int) := of_decide_eq_true (by assumption)
                     obtain ⟨ad328, e328, hx328_0, hx328_1⟩ := at_T44 (Kd.R_reads' HO_14.out).2.2 0 p328 q328
                     cases e328
                     have qi328 : (0 < t323.length) = True := eq_true (by omega)
                     (try rw [show ((0 : Int)).toNat = 0 from rfl] at hx328_0)
                     (try rw [show 0 * 2 = 0 from rfl] at hx328_0)
                     (try rw [Addr.add_zero'] at hx328_0)
                     (try rw [show ((0 : Int)).toNat = 0 from rfl] at hx328_1)
                     (try rw [show 0 * 2 = 0 from rfl] at hx328_1)
                     (try rw [Addr.add_zero'] at hx328_1)
                     replace p328 := eq_true p328
                     replace q328 := eq_true q328
                     go_wp2_with (first | ((with_reducible refine gate_callee (f := 24) rfl ?_); refine goesL_ (some 109) rfl rfl Try.func24 (by kernel_rfl) rfl #[.int .i64 (wrap64 (((rd_T26 t316 x78_4).f0) - 97)), .int .i64 0, .int .i64 (wrap64 (t307 - 1))] rfl (by (try simp only [List.map_toArray, List.map_cons, List.map_nil]); first | done | rfl | (simp only [List.length_drop, List.length_take]; rfl)) ?_; (with_reducible refine (chanceryref1_In.calls (wrap64 (((rd_T26 t316 x78_4).f0) - 97)) 0 (wrap64 (t307 - 1)) true _ A52.out).mono ?_); rintro e w' ⟨rfl, ⟨nd, rfl⟩⟩; refine ⟨_, rfl, ?_⟩))
                     go_roundg k4
                     case measure => have := HJ4.out; have := HK2.out; have := HJ21.out; have := HK4.out; omega
                     case rel => exact ⟨(wrap64 (x78_4 + 1)), (by first | rfl | (simp; done) | (simp [*]; done)), H', ⟨by have := HJ4.out; have := HK2.out; have := HJ21.out; have := HK4.out; omega⟩, ⟨by (with_reducible repeat (first | apply Kd.N_alloc | apply Kd.N_drewN | apply Kd.N_drew)); exact HO_12.out⟩, ⟨by (with_reducible repeat (first | apply Kd.R_alloc | apply Kd.R_drewN | apply Kd.R_drew)); exact HO_14.out⟩, ⟨by repeat (first | (with_reducible first | exact HB.out | apply below_alloc | apply pw_below_drewN | apply below_drew1) | exact HB.out)⟩⟩
                  ·replace c53 := Bool.eq_false_iff.mpr c53
                   subst c53
                   have H1 : (chancerykeep1_SpanThroughContains.l1 k4 t307 t308 t309 t316 t323 (t316.length : Int) (wrap64 (x78_4 + 1))) = some r := by rw [if_neg (show ¬ (false = true) by decide)] at H; exact H
                   clear H
                   have H := H1
                   clear H1
                   have H' := Aside0.mk H
                   clear H
                   have p327 : 0 ≤ (x78_4 : Int) := of_decide_eq_true (by assumption)
                   have q327 : x78_4 < (t316.length : Int) := of_decide_eq_true (by assumption)
                   obtain ⟨ad327, A327_2, c327_2, e327, hx327_0, hx327_1, hx327_2, hl327_2, hi327_2⟩ := at_T26 (Kd.N_reads' HO_12.out).2.2 x78_4 p327 q327
                   cases e327
                   obtain ⟨ce327, hce327, hMe327, hcc327⟩ := Kd.N_get HO_12.out z26 x78_4 p327 (by first | exact q327 | exact of_decide_eq_true (by assumption) | (have e_ := (Kd.N_reads' HO_12.out).1; omega))
                   obtain ⟨ua327_2, uc327_2, rfl, ul327_2, ge327_2⟩ := k26_openF hMe327
                   have hv327_2 := hcc327 2 _ rfl
                   rw [add_field _ _ 2 (by omega)] at hv327_2
                   replace hv327_2 := Option.some.inj (hv327_2.symm.trans hx327_2)
                   injection hv327_2 with hva_ hvn_ hvc_
                   rw [hva_] at ge327_2
                   rw [hvc_] at ul327_2
                   have HL327_2 := Aside0.mk (show Kd.V k91 91 _ w.heap.size _ _ ((rd_T26 t316 x78_4).f2) from Kd.V_mk ul327_2 ge327_2)
                   clear hva_ hvn_ hvc_ ge327_2 ul327_2
                   clear hcc327 hce327
                   have HR327_2 := Aside0.mk hi327_2
                   have HC327_2 := Aside0.mk hl327_2
                   clear hi327_2 hl327_2
                   replace p327 := eq_true p327
                   replace q327 := eq_true q327
                   obtain ⟨Ao61, co61, eo61⟩ := Kd.R_slice HO_14.out
                   subst eo61
                   have p328 : 0 ≤ (0 : Int) := (by omega)
                   have q328 : 0 < (t323.length : Int) := of_decide_eq_true (by assumption)
                   obtain ⟨ad328, e328, hx328_0, hx328_1⟩ := at_T44 (Kd.R_reads' HO_14.out).2.2 0 p328 q328
                   cases e328
                   have qi328 : (0 < t323.length) = True := eq_true (by omega)
                   (try rw [show ((0 : Int)).toNat = 0 from rfl] at hx328_0)
                   (try rw [show 0 * 2 = 0 from rfl] at hx328_0)
                   (try rw [Addr.add_zero'] at hx328_0)
                   (try rw [show ((0 : Int)).toNat = 0 from rfl] at hx328_1)
                   (try rw [show 0 * 2 = 0 from rfl] at hx328_1)
                   (try rw [Addr.add_zero'] at hx328_1)
                   replace p328 := eq_true p328
                   replace q328 := eq_true q328
                   go_wp2_with (first | ((with_reducible refine gate_callee (f := 24) rfl ?_); refine goesL_ (some 109) rfl rfl Try.func24 (by kernel_rfl) rfl #[.int .i64 (wrap64 (((rd_T26 t316 x78_4).f0) - 97)), .int .i64 0, .int .i64 (wrap64 (t307 - 1))] rfl (by (try simp only [List.map_toArray, List.map_cons, List.map_nil]); first | done | rfl | (simp only [List.length_drop, List.length_take]; rfl)) ?_; (with_reducible refine (chanceryref1_In.calls (wrap64 (((rd_T26 t316 x78_4).f0) - 97)) 0 (wrap64 (t307 - 1)) false _ A52.out).mono ?_); rintro e w' ⟨rfl, ⟨nd, rfl⟩⟩; refine ⟨_, rfl, ?_⟩))
                   go_roundg k4
                   case measure => have := HJ4.out; have := HK2.out; have := HJ21.out; have := HK4.out; omega
                   case rel => exact ⟨(wrap64 (x78_4 + 1)), (by first | rfl | (simp; done) | (simp [*]; done)), H', ⟨by have := HJ4.out; have := HK2.out; have := HJ21.out; have := HK4.out; omega⟩, ⟨by (with_reducible repeat (first | apply Kd.N_alloc | apply Kd.N_drewN | apply Kd.N_drew)); exact HO_12.out⟩, ⟨by (with_reducible repeat (first | apply Kd.R_alloc | apply Kd.R_drewN | apply Kd.R_drew)); exact HO_14.out⟩, ⟨by repeat (first | (with_reducible first | exact HB.out | apply below_alloc | apply pw_below_drewN | apply below_drew1) | exact HB.out)⟩⟩
                ·rw [if_neg c40] at H
                 exact absurd H (by simp)
               ·rw [if_neg c39] at H
                have c39b0 : ((t323.length : Int) == 1) = false := beq_eq_false_iff_ne.mpr c39
                have c39b1 : ((t323.length : Int) != 1) = true := bne_iff_ne.mpr c39
                replace H := Option.bind_eq_some_iff.mp H
                obtain ⟨t332, A620, H⟩ := H
                replace H : (if t332 = true then (if (wrap64 (((rd_T26 t316 x78_4).f0) - 97)) ≥ t308 then (if (false != (decide ((wrap64 (((rd_T26 t316 x78_4).f0) - 97)) < t309))) = true then (some false) else (chancerykeep1_SpanThroughContains.l1 k4 t307 t308 t309 t316 t323 (t316.length : Int) (wrap64 (x78_4 + 1)))) else (if (false != false) = true then (some false) else (chancerykeep1_SpanThroughContains.l1 k4 t307 t308 t309 t316 t323 (t316.length : Int) (wrap64 (x78_4 + 1))))) else (chancerykeep1_SpanThroughContains.l1 k4 t307 t308 t309 t316 t323 (t316.length : Int) (wrap64 (x78_4 + 1)))) = some r := H
                have A62 := Aside0.mk A620
                clear A620
                by_cases c63 : t332 = true
                ·subst c63
                 have H1 : (if (wrap64 (((rd_T26 t316 x78_4).f0) - 97)) ≥ t308 then (if (false != (decide ((wrap64 (((rd_T26 t316 x78_4).f0) - 97)) < t309))) = true then (some false) else (chancerykeep1_SpanThroughContains.l1 k4 t307 t308 t309 t316 t323 (t316.length : Int) (wrap64 (x78_4 + 1)))) else (if (false != false) = true then (some false) else (chancerykeep1_SpanThroughContains.l1 k4 t307 t308 t309 t316 t323 (t316.length : Int) (wrap64 (x78_4 + 1))))) = some r := by rw [if_pos rfl] at H; exact H
                 clear H
                 have H := H1
                 clear H1
                 by_cases c64 : (wrap64 (((rd_T26 t316 x78_4).f0) - 97)) ≥ t308
                 ·rw [if_pos c64] at H
                  have c64b0 : decide (t308 ≤ (wrap64 (((rd_T26 t316 x78_4).f0) - 97))) = true := decide_eq_true c64
                  clear c64
                  by_cases c65 : (false != (decide ((wrap64 (((rd_T26 t316 x78_4).f0) - 97)) < t309))) = true
                  ·rw [if_pos c65] at H
                   have c65b0 : (false != (decide ((wrap64 (((rd_T26 t316 x78_4).f0) - 97)) < t309))) = true := c65
                   (try (have c65b1 : decide (false = (decide ((wrap64 (((rd_T26 t316 x78_4).f0) - 97)) < t309))) = false := by simpa using c65))
                   (try (have c65b2 : (false == (decide ((wrap64 (((rd_T26 t316 x78_4).f0) - 97)) < t309))) = false := by simpa using c65))
                   (try (have c65b3 : ¬ (false = (decide ((wrap64 (((rd_T26 t316 x78_4).f0) - 97)) < t309))) := by simpa using c65))
                   clear c65
                   obtain rfl := Option.some.inj H
                   have p327 : 0 ≤ (x78_4 : Int) := of_decide_eq_true (by assumption)
                   have q327 : x78_4 < (t316.length : Int) := of_decide_eq_true (by assumption)
                   obtain ⟨ad327, A327_2, c327_2, e327, hx327_0, hx327_1, hx327_2, hl327_2, hi327_2⟩ := at_T26 (Kd.N_reads' HO_12.out).2.2 x78_4 p327 q327
                   cases e327
                   obtain ⟨ce327, hce327, hMe327, hcc327⟩ := Kd.N_get HO_12.out z26 x78_4 p327 (by first | exact q327 | exact of_decide_eq_true (by assumption) | (have e_ := (Kd.N_reads' HO_12.out).1; omega))
                   obtain ⟨ua327_2, uc327_2, rfl, ul327_2, ge327_2⟩ := k26_openF hMe327
                   have hv327_2 := hcc327 2 _ rfl
                   rw [add_field _ _ 2 (by omega)] at hv327_2
                   replace hv327_2 := Option.some.inj (hv327_2.symm.trans hx327_2)
                   injection hv327_2 with hva_ hvn_ hvc_
                   rw [hva_] at ge327_2
                   rw [hvc_] at ul327_2
                   have HL327_2 := Aside0.mk (show Kd.V k91 91 _ w.heap.size _ _ ((rd_T26 t316 x78_4).f2) from Kd.V_mk ul327_2 ge327_2)
                   clear hva_ hvn_ hvc_ ge327_2 ul327_2
                   clear hcc327 hce327
                   have HR327_2 := Aside0.mk hi327_2
                   have HC327_2 := Aside0.mk hl327_2
                   clear hi327_2 hl327_2
                   replace p327 := eq_true p327
                   replace q327 := eq_true q327
                   obtain ⟨Ao66, co66, eo66⟩ := Kd.R_slice HO_14.out
                   subst eo66
                   go_wp2_with (first | ((with_reducible refine gate_callee (f := 24) rfl ?_); refine goesL_ (some 109) rfl rfl Try.func24 (by kernel_rfl) rfl #[.int .i64 (wrap64 (((rd_T26 t316 x78_4).f0) - 97)), .int .i64 0, .int .i64 (wrap64 (t307 - 1))] rfl (by (try simp only [List.map_toArray, List.map_cons, List.map_nil]); first | done | rfl | (simp only [List.length_drop, List.length_take]; rfl)) ?_; (with_reducible refine (chanceryref1_In.calls (wrap64 (((rd_T26 t316 x78_4).f0) - 97)) 0 (wrap64 (t307 - 1)) true _ A62.out).mono ?_); rintro e w' ⟨rfl, ⟨nd, rfl⟩⟩; refine ⟨_, rfl, ?_⟩))
                   go_ret
                   exact ⟨by first | rfl | (simp [errW_none, errW_some] <;> rfl) | (simp [*, errW_none, errW_some] <;> rfl), by repeat (first | (with_reducible first | exact HB.out | apply below_alloc | apply pw_below_drewN | apply below_drew1) | exact HB.out)⟩
                  ·rw [if_neg c65] at H
                   have c65b0 : (false != (decide ((wrap64 (((rd_T26 t316 x78_4).f0) - 97)) < t309))) = false := by simpa using c65
                   (try (have c65b1 : decide (false = (decide ((wrap64 (((rd_T26 t316 x78_4).f0) - 97)) < t309))) = true := by simpa using c65))
                   (try (have c65b2 : (false == (decide ((wrap64 (((rd_T26 t316 x78_4).f0) - 97)) < t309))) = true := by simpa using c65))
                   clear c65
                   have H' := Aside0.mk H
                   clear H
                   have p327 : 0 ≤ (x78_4 : Int) := of_decide_eq_true (by assumption)
                   have q327 : x78_4 < (t316.length : Int) := of_decide_eq_true (by assumption)
                   obtain ⟨ad327, A327_2, c327_2, e327, hx327_0, hx327_1, hx327_2, hl327_2, hi327_2⟩ := at_T26 (Kd.N_reads' HO_12.out).2.2 x78_4 p327 q327
                   cases e327
                   obtain ⟨ce327, hce327, hMe327, hcc327⟩ := Kd.N_get HO_12.out z26 x78_4 p327 (by first | exact q327 | exact of_decide_eq_true (by assumption) | (have e_ := (Kd.N_reads' HO_12.out).1; omega))
                   obtain ⟨ua327_2, uc327_2, rfl, ul327_2, ge327_2⟩ := k26_openF hMe327
                   have hv327_2 := hcc327 2 _ rfl
                   rw [add_field _ _ 2 (by omega)] at hv327_2
                   replace hv327_2 := Option.some.inj (hv327_2.symm.trans hx327_2)
                   injection hv327_2 with hva_ hvn_ hvc_
                   rw [hva_] at ge327_2
                   rw [hvc_] at ul327_2
                   have HL327_2 := Aside0.mk (show Kd.V k91 91 _ w.heap.size _ _ ((rd_T26 t316 x78_4).f2) from Kd.V_mk ul327_2 ge327_2)
                   clear hva_ hvn_ hvc_ ge327_2 ul327_2
                   clear hcc327 hce327
                   have HR327_2 := Aside0.mk hi327_2
                   have HC327_2 := Aside0.mk hl327_2
                   clear hi327_2 hl327_2
                   replace p327 := eq_true p327
                   replace q327 := eq_true q327
                   obtain ⟨Ao67, co67, eo67⟩ := Kd.R_slice HO_14.out
                   subst eo67
                   go_wp2_with (first | ((with_reducible refine gate_callee (f := 24) rfl ?_); refine goesL_ (some 109) rfl rfl Try.func24 (by kernel_rfl) rfl #[.int .i64 (wrap64 (((rd_T26 t316 x78_4).f0) - 97)), .int .i64 0, .int .i64 (wrap64 (t307 - 1))] rfl (by (try simp only [List.map_toArray, List.map_cons, List.map_nil]); first | done | rfl | (simp only [List.length_drop, List.length_take]; rfl)) ?_; (with_reducible refine (chanceryref1_In.calls (wrap64 (((rd_T26 t316 x78_4).f0) - 97)) 0 (wrap64 (t307 - 1)) true _ A62.out).mono ?_); rintro e w' ⟨rfl, ⟨nd, rfl⟩⟩; refine ⟨_, rfl, ?_⟩))
                   go_roundg k4
                   case measure => have := HJ4.out; have := HK2.out; have := HJ21.out; have := HK4.out; omega
                   case rel => exact ⟨(wrap64 (x78_4 + 1)), (by first | rfl | (simp; done) | (simp [*]; done)), H', ⟨by have := HJ4.out; have := HK2.out; have := HJ21.out; have := HK4.out; omega⟩, ⟨by (with_reducible repeat (first | apply Kd.N_alloc | apply Kd.N_drewN | apply Kd.N_drew)); exact HO_12.out⟩, ⟨by (with_reducible repeat (first | apply Kd.R_alloc | apply Kd.R_drewN | apply Kd.R_drew)); exact HO_14.out⟩, ⟨by repeat (first | (with_reducible first | exact HB.out | apply below_alloc | apply pw_below_drewN | apply below_drew1) | exact HB.out)⟩⟩
                 ·rw [if_neg c64] at H
                  have c64b0 : decide (t308 ≤ (wrap64 (((rd_T26 t316 x78_4).f0) - 97))) = false := decide_eq_false c64
                  clear c64
                  by_cases c68 : (false != false) = true
                  ·exact absurd c68 (by decide)
                  ·rw [if_neg c68] at H
                   have c68b0 : (false != false) = false := by simp
                   (try (have c68b1 : decide (false = false) = true := by simp))
                   (try (have c68b2 : (false == false) = true := by simp))
                   clear c68
                   have H' := Aside0.mk H
                   clear H
                   have p327 : 0 ≤ (x78_4 : Int) := of_decide_eq_true (by assumption)
                   have q327 : x78_4 < (t316.length : Int) := of_decide_eq_true (by assumption)
                   obtain ⟨ad327, A327_2, c327_2, e327, hx327_0, hx327_1, hx327_2, hl327_2, hi327_2⟩ := at_T26 (Kd.N_reads' HO_12.out).2.2 x78_4 p327 q327
                   cases e327
                   obtain ⟨ce327, hce327, hMe327, hcc327⟩ := Kd.N_get HO_12.out z26 x78_4 p327 (by first | exact q327 | exact of_decide_eq_true (by assumption) | (have e_ := (Kd.N_reads' HO_12.out).1; omega))
                   obtain ⟨ua327_2, uc327_2, rfl, ul327_2, ge327_2⟩ := k26_openF hMe327
                   have hv327_2 := hcc327 2 _ rfl
                   rw [add_field _ _ 2 (by omega)] at hv327_2
                   replace hv327_2 := Option.some.inj (hv327_2.symm.trans hx327_2)
                   injection hv327_2 with hva_ hvn_ hvc_
                   rw [hva_] at ge327_2
                   rw [hvc_] at ul327_2
                   have HL327_2 := Aside0.mk (show Kd.V k91 91 _ w.heap.size _ _ ((rd_T26 t316 x78_4).f2) from Kd.V_mk ul327_2 ge327_2)
                   clear hva_ hvn_ hvc_ ge327_2 ul327_2
                   clear hcc327 hce327
                   have HR327_2 := Aside0.mk hi327_2
                   have HC327_2 := Aside0.mk hl327_2
                   clear hi327_2 hl327_2
                   replace p327 := eq_true p327
                   replace q327 := eq_true q327
                   obtain ⟨Ao70, co70, eo70⟩ := Kd.R_slice HO_14.out
                   subst eo70
                   go_wp2_with (first | ((with_reducible refine gate_callee (f := 24) rfl ?_); refine goesL_ (some 109) rfl rfl Try.func24 (by kernel_rfl) rfl #[.int .i64 (wrap64 (((rd_T26 t316 x78_4).f0) - 97)), .int .i64 0, .int .i64 (wrap64 (t307 - 1))] rfl (by (try simp only [List.map_toArray, List.map_cons, List.map_nil]); first | done | rfl | (simp only [List.length_drop, List.length_take]; rfl)) ?_; (with_reducible refine (chanceryref1_In.calls (wrap64 (((rd_T26 t316 x78_4).f0) - 97)) 0 (wrap64 (t307 - 1)) true _ A62.out).mono ?_); rintro e w' ⟨rfl, ⟨nd, rfl⟩⟩; refine ⟨_, rfl, ?_⟩))
                   go_roundg k4
                   case measure => have := HJ4.out; have := HK2.out; have := HJ21.out; have := HK4.out; omega
                   case rel => exact ⟨(wrap64 (x78_4 + 1)), (by first | rfl | (simp; done) | (simp [*]; done)), H', ⟨by have := HJ4.out; have := HK2.out; have := HJ21.out; have := HK4.out; omega⟩, ⟨by (with_reducible repeat (first | apply Kd.N_alloc | apply Kd.N_drewN | apply Kd.N_drew)); exact HO_12.out⟩, ⟨by (with_reducible repeat (first | apply Kd.R_alloc | apply Kd.R_drewN | apply Kd.R_drew)); exact HO_14.out⟩, ⟨by repeat (first | (with_reducible first | exact HB.out | apply below_alloc | apply pw_below_drewN | apply below_drew1) | exact HB.out)⟩⟩
                ·replace c63 := Bool.eq_false_iff.mpr c63
                 subst c63
                 have H1 : (chancerykeep1_SpanThroughContains.l1 k4 t307 t308 t309 t316 t323 (t316.length : Int) (wrap64 (x78_4 + 1))) = some r := by rw [if_neg (show ¬ (false = true) by decide)] at H; exact H
                 clear H
                 have H := H1
                 clear H1
                 have H' := Aside0.mk H
                 clear H
                 have p327 : 0 ≤ (x78_4 : Int) := of_decide_eq_true (by assumption)
                 have q327 : x78_4 < (t316.length : Int) := of_decide_eq_true (by assumption)
                 obtain ⟨ad327, A327_2, c327_2, e327, hx327_0, hx327_1, hx327_2, hl327_2, hi327_2⟩ := at_T26 (Kd.N_reads' HO_12.out).2.2 x78_4 p327 q327
                 cases e327
                 obtain ⟨ce327, hce327, hMe327, hcc327⟩ := Kd.N_get HO_12.out z26 x78_4 p327 (by first | exact q327 | exact of_decide_eq_true (by assumption) | (have e_ := (Kd.N_reads' HO_12.out).1; omega))
                 obtain ⟨ua327_2, uc327_2, rfl, ul327_2, ge327_2⟩ := k26_openF hMe327
                 have hv327_2 := hcc327 2 _ rfl
                 rw [add_field _ _ 2 (by omega)] at hv327_2
                 replace hv327_2 := Option.some.inj (hv327_2.symm.trans hx327_2)
                 injection hv327_2 with hva_ hvn_ hvc_
                 rw [hva_] at ge327_2
                 rw [hvc_] at ul327_2
                 have HL327_2 := Aside0.mk (show Kd.V k91 91 _ w.heap.size _ _ ((rd_T26 t316 x78_4).f2) from Kd.V_mk ul327_2 ge327_2)
                 clear hva_ hvn_ hvc_ ge327_2 ul327_2
                 clear hcc327 hce327
                 have HR327_2 := Aside0.mk hi327_2
                 have HC327_2 := Aside0.mk hl327_2
                 clear hi327_2 hl327_2
                 replace p327 := eq_true p327
                 replace q327 := eq_true q327
                 obtain ⟨Ao71, co71, eo71⟩ := Kd.R_slice HO_14.out
                 subst eo71
                 go_wp2_with (first | ((with_reducible refine gate_callee (f := 24) rfl ?_); refine goesL_ (some 109) rfl rfl Try.func24 (by kernel_rfl) rfl #[.int .i64 (wrap64 (((rd_T26 t316 x78_4).f0) - 97)), .int .i64 0, .int .i64 (wrap64 (t307 - 1))] rfl (by (try simp only [List.map_toArray, List.map_cons, List.map_nil]); first | done | rfl | (simp only [List.length_drop, List.length_take]; rfl)) ?_; (with_reducible refine (chanceryref1_In.calls (wrap64 (((rd_T26 t316 x78_4).f0) - 97)) 0 (wrap64 (t307 - 1)) false _ A62.out).mono ?_); rintro e w' ⟨rfl, ⟨nd, rfl⟩⟩; refine ⟨_, rfl, ?_⟩))
                 go_roundg k4
                 case measure => have := HJ4.out; have := HK2.out; have := HJ21.out; have := HK4.out; omega
                 case rel => exact ⟨(wrap64 (x78_4 + 1)), (by first | rfl | (simp; done) | (simp [*]; done)), H', ⟨by have := HJ4.out; have := HK2.out; have := HJ21.out; have := HK4.out; omega⟩, ⟨by (with_reducible repeat (first | apply Kd.N_alloc | apply Kd.N_drewN | apply Kd.N_drew)); exact HO_12.out⟩, ⟨by (with_reducible repeat (first | apply Kd.R_alloc | apply Kd.R_drewN | apply Kd.R_drew)); exact HO_14.out⟩, ⟨by repeat (first | (with_reducible first | exact HB.out | apply below_alloc | apply pw_below_drewN | apply below_drew1) | exact HB.out)⟩⟩
              ·rw [if_neg c38] at H
               exact absurd H (by simp)
             ·rw [if_neg c37] at H
              exact absurd H (by simp)
            ·rw [if_neg c36] at H
             have c36b0 : decide (x78_4 < (t316.length : Int)) = false := decide_eq_false c36
             clear c36
             obtain rfl := Option.some.inj H
             go_wp2
             go_ret
             exact ⟨by first | rfl | (simp [errW_none, errW_some] <;> rfl) | (simp [*, errW_none, errW_some] <;> rfl), by repeat (first | (with_reducible first | exact HB.out | apply below_alloc | apply pw_below_drewN | apply below_drew1) | exact HB.out)⟩
def chancerykeep1_SpanThroughContains.Pure : Prop := ∀ (a0 : Int) (l1 : List Int) (a2 : Int) (a3 : Int), (Lit.int .i64 a0).wf = true → l1.length ≤ maxLen → l1.length * 8 ≤ 140737488351232 → (∀ x ∈ l1, (Lit.int .i64 x).wf = true) → (Lit.int .i64 a2).wf = true → (Lit.int .i64 a3).wf = true → ∃ k, chancerykeep1_SpanThroughContains.f k a0 l1 a2 a3 = some true
theorem chancerykeep1_SpanThroughContains.walk (P : chancerykeep1_SpanThroughContains.Pure) (a0 : Int) (a1 : Option Addr) (len1 cap1 : Nat) (z1 : List Int) (a2 : Int) (a3 : Int) (w : World) (w0 : (Lit.int .i64 a0).wf = true) (w1 : (a1 = none ∧ len1 = 0 ∧ cap1 = 0 ∧ z1 = []) ∨ ∃ x, a1 = some x ∧ len1 ≤ cap1 ∧ cap1 ≤ maxLen ∧ z1.length = cap1 ∧ (∀ i, i < z1.length → w.cell? (x.add i) = some (.int .i64 (z1.getD i 0))) ∧ ∀ n ∈ z1, (Lit.int .i64 n).wf = true) (y1 : len1 * 8 ≤ 140737488351232) (w2 : (Lit.int .i64 a2).wf = true) (w3 : (Lit.int .i64 a3).wf = true) :
  Calls Try.prog 4 #[.int .i64 a0, .slice a1 len1 cap1, .int .i64 a2, .int .i64 a3] w fun e w' => e = .returned (.bool true) ∧ Below w.heap.size w w' := by
 obtain ⟨l1, rfl, hr1, hm1, hw1, hc1⟩ := ReadsInt.ofRowC w1
 obtain ⟨k, h⟩ := P a0 l1 a2 a3 w0 hm1 y1 hw1 w2 w3
 refine (chancerykeep1_SpanThroughContains.calls k a0 _ _ l1 a2 a3 true w (Kd.C_of_reads (d := (0 : Int)) (h1 := fun _ => rfl) hr1) hc1 h).mono ?_
 rintro e w' ⟨rfl, hd⟩
 exact ⟨rfl, hd⟩
end


end Go.Proofs.Ytlcodfjlbhjkbaa.PDelta
end
section
namespace Go.Proofs.Ytlcodfjlbhjkbaa.PDelta
open Go.RowKit Go.Proofs.YtlcodfjlbhjkbaaW.PrintWords Go.Proofs.YtlcodfjlbhjkbaaW.PrintLast Go.Proofs.YtlcodfjlbhjkbaaW.PrintMore
theorem wrap_up {i : Int} (h0 : 0 ≤ i) (h : i ≤ 1099511627776) : wrap64 (i + 1) = i + 1 := by unfold wrap64; omega
theorem wrap_dn {i : Int} (h0 : 0 ≤ i) (h : i ≤ 1099511627776) : wrap64 (i - 1) = i - 1 := by unfold wrap64; omega
def chOK (first : Prop) (c : Int) : Prop := (97 ≤ c ∧ c ≤ 122) ∨ (¬ first ∧ (c = 46 ∨ c = 45 ∨ (48 ≤ c ∧ c ≤ 57)))
def NameOK (s : ByteArray) : Prop := 1 ≤ s.size ∧ s.size ≤ 24 ∧ ∀ i : Int, 0 ≤ i → i < s.size → chOK (i = 0) (bt s i)
def ValOK (s : ByteArray) : Prop := 1 ≤ s.size ∧ s.size ≤ 200 ∧ ∀ i : Int, 0 ≤ i → i < s.size → 32 ≤ bt s i ∧ bt s i ≤ 126
theorem size_list (s : ByteArray) : s.toList.length = s.size := by rw [ByteArray.toList_eq]; rfl
theorem list_nil {s : ByteArray} : s.toList = [] ↔ s.size = 0 := by rw [← size_list, List.length_eq_zero_iff]
theorem ba_ext {a b : ByteArray} (h : a.toList = b.toList) : a = b := by
 rw [ByteArray.toList_eq, ByteArray.toList_eq] at h
 cases a; cases b; congr; exact Array.toList_inj.1 h
theorem name_l0 (s : ByteArray) (hs : s.size ≤ 1099511627776) (d : Nat) : ∀ (k : Nat) (i : Int), 0 ≤ i → i ≤ s.size → (s.size : Int) - i = d → d < k →
  ∃ b, attr_Name.l0 k s (s.size : Int) i = some b ∧ (b = true ↔ ∀ j : Int, i ≤ j → j < s.size → chOK False (bt s j)) := by
 induction d with
 | zero =>
  intro k i h0 h1 hd hk
  obtain ⟨k, rfl⟩ : ∃ m, k = m + 1 := ⟨k - 1, by omega⟩
  simp only [attr_Name.l0]
  rw [if_neg (by omega)]
  exact ⟨true, rfl, ⟨fun _ j h2 h3 => by omega, fun _ => rfl⟩⟩
 | succ d ih =>
  intro k i h0 h1 hd hk
  obtain ⟨k, rfl⟩ : ∃ m, k = m + 1 := ⟨k - 1, by omega⟩
  have hlt : i < (s.size : Int) := by omega
  by_cases hc : chOK False (bt s i)
  ·have e : attr_Name.l0 (k + 1) s (s.size : Int) i = attr_Name.l0 k s (s.size : Int) (i + 1) := by
    simp only [attr_Name.l0]
    rw [if_pos hlt, if_pos h0, if_pos hlt, wrap_up h0 (by omega)]
    unfold chOK at hc
    repeat' (first | rfl | split)
    all_goals (exfalso; omega)
   obtain ⟨b, hb, hi⟩ := ih k (i + 1) (by omega) (by omega) (by omega) (by omega)
   refine ⟨b, e.trans hb, hi.trans ⟨fun h j h2 h3 => ?_, fun h j h2 h3 => h j (by omega) h3⟩⟩
   rcases Int.lt_or_eq_of_le h2 with h4 | h4
   ·exact h j (by omega) h3
   ·subst h4; exact hc
  ·refine ⟨false, ?_, ⟨(fun h => by cases h), (fun h => absurd (h i (Int.le_refl _) hlt) hc)⟩⟩
   have hc' : ¬ ((97 ≤ bt s i ∧ bt s i ≤ 122) ∨ (bt s i = 46 ∨ bt s i = 45 ∨ (48 ≤ bt s i ∧ bt s i ≤ 57))) := fun h => hc (h.imp id (fun h => ⟨id, h⟩))
   clear hc
   simp only [attr_Name.l0]
   rw [if_pos hlt, if_pos h0, if_pos hlt]
   repeat' (first | rfl | split)
   all_goals (exfalso; omega)
theorem name_ev (s : ByteArray) (hs : s.size ≤ 1099511627776) : ∃ b, Ev (fun k => attr_Name.f k s) b ∧ (b = true ↔ NameOK s) := by
 have bad : ∀ k, attr_Name.j0 (k + 1) s true = some false := fun k => by simp only [attr_Name.j0]; rw [if_pos trivial]
 have fls : ¬ NameOK s → attr_Name.f 1 s = some false → ∃ b, Ev (fun k => attr_Name.f k s) b ∧ (b = true ↔ NameOK s) := fun h e => ⟨false, Ev.of (fun k => attr_Name.mono s k) e, ⟨(fun h => by cases h), (fun h' => absurd h' h)⟩⟩
 by_cases h0 : s.size = 0
 ·exact fls (fun h => by have := h.1; omega) (by simp only [attr_Name.f]; rw [if_pos (list_nil.2 h0)]; exact bad 0)
 have hn : ¬ s.toList = [] := fun h => h0 (list_nil.1 h)
 by_cases h1 : (s.size : Int) > 24
 ·exact fls (fun h => by have := h.2.1; omega) (by simp only [attr_Name.f]; rw [if_neg hn, if_pos h1]; exact bad 0)
 by_cases h2 : bt s 0 < 97
 ·exact fls (fun h => by have := h.2.2 0 (Int.le_refl _) (by omega); unfold chOK at this; simp at this; omega) (by simp only [attr_Name.f]; rw [if_neg hn, if_neg h1, if_pos (by omega), if_pos h2]; exact bad 0)
 by_cases h3 : bt s 0 > 122
 ·exact fls (fun h => by have := h.2.2 0 (Int.le_refl _) (by omega); unfold chOK at this; simp at this; omega) (by simp only [attr_Name.f]; rw [if_neg hn, if_neg h1, if_pos (by omega), if_neg h2, decide_eq_true h3]; exact bad 0)
 obtain ⟨b, hb, hi⟩ := name_l0 s hs s.size (s.size + 1) 0 (by omega) (by omega) (by omega) (by omega)
 refine ⟨b, Ev.of (fun k => attr_Name.mono s k) (k := s.size + 2) ?_, hi.trans ⟨fun h => ⟨by omega, by omega, fun j a1 a2 => ?_⟩, fun h j a1 a2 => ?_⟩⟩
 ·simp only [attr_Name.f]
  rw [if_neg hn, if_neg h1, if_pos (by omega), if_neg h2, decide_eq_false h3]
  simp only [attr_Name.j0]
  rw [if_neg (by decide)]
  exact hb
 ·rcases h j a1 a2 with h4 | ⟨_, h4⟩
  ·exact .inl h4
  ·by_cases hj : j = 0
   ·subst hj
    exact .inl (by omega)
   ·exact .inr ⟨hj, h4⟩
 ·rcases h.2.2 j a1 a2 with h4 | ⟨_, h4⟩
  ·exact .inl h4
  ·exact .inr ⟨id, h4⟩
theorem val_l0 (s : ByteArray) (hs : s.size ≤ 1099511627776) (d : Nat) : ∀ (k : Nat) (i : Int), 0 ≤ i → i ≤ s.size → (s.size : Int) - i = d → d < k →
  ∃ b, attr_Value.l0 k s (s.size : Int) i = some b ∧ (b = true ↔ ∀ j : Int, i ≤ j → j < s.size → 32 ≤ bt s j ∧ bt s j ≤ 126) := by
 induction d with
 | zero =>
  intro k i h0 h1 hd hk
  obtain ⟨k, rfl⟩ : ∃ m, k = m + 1 := ⟨k - 1, by omega⟩
  simp only [attr_Value.l0]
  rw [if_neg (by omega)]
  exact ⟨true, rfl, ⟨fun _ j h2 h3 => by omega, fun _ => rfl⟩⟩
 | succ d ih =>
  intro k i h0 h1 hd hk
  obtain ⟨k, rfl⟩ : ∃ m, k = m + 1 := ⟨k - 1, by omega⟩
  have hlt : i < (s.size : Int) := by omega
  by_cases hc : 32 ≤ bt s i ∧ bt s i ≤ 126
  ·have e : attr_Value.l0 (k + 1) s (s.size : Int) i = attr_Value.l0 k s (s.size : Int) (i + 1) := by
    simp only [attr_Value.l0]
    rw [if_pos hlt, if_pos h0, if_pos hlt, wrap_up h0 (by omega), if_neg (by omega), if_neg (by omega)]
   obtain ⟨b, hb, hi⟩ := ih k (i + 1) (by omega) (by omega) (by omega) (by omega)
   refine ⟨b, e.trans hb, hi.trans ⟨fun h j h2 h3 => ?_, fun h j h2 h3 => h j (by omega) h3⟩⟩
   rcases Int.lt_or_eq_of_le h2 with h4 | h4
   ·exact h j (by omega) h3
   ·subst h4; exact hc
  ·refine ⟨false, ?_, ⟨(fun h => by cases h), (fun h => absurd (h i (Int.le_refl _) hlt) hc)⟩⟩
   simp only [attr_Value.l0]
   rw [if_pos hlt, if_pos h0, if_pos hlt]
   repeat' (first | rfl | split)
   all_goals (exfalso; omega)
theorem val_ev (s : ByteArray) (hs : s.size ≤ 1099511627776) : ∃ b, Ev (fun k => attr_Value.f k s) b ∧ (b = true ↔ ValOK s) := by
 have bad : ∀ k, attr_Value.j0 (k + 1) s true = some false := fun k => by simp only [attr_Value.j0]; rw [if_pos trivial]
 have fls : ¬ ValOK s → attr_Value.f 1 s = some false → ∃ b, Ev (fun k => attr_Value.f k s) b ∧ (b = true ↔ ValOK s) := fun h e => ⟨false, Ev.of (fun k => attr_Value.mono s k) e, ⟨(fun h => by cases h), (fun h' => absurd h' h)⟩⟩
 by_cases h0 : s.size = 0
 ·exact fls (fun h => by have := h.1; omega) (by simp only [attr_Value.f]; rw [if_pos (list_nil.2 h0)]; exact bad 0)
 have hn : ¬ s.toList = [] := fun h => h0 (list_nil.1 h)
 by_cases h1 : (s.size : Int) > 200
 ·exact fls (fun h => by have := h.2.1; omega) (by simp only [attr_Value.f]; rw [if_neg hn, decide_eq_true h1]; exact bad 0)
 obtain ⟨b, hb, hi⟩ := val_l0 s hs s.size (s.size + 1) 0 (by omega) (by omega) (by omega) (by omega)
 refine ⟨b, Ev.of (fun k => attr_Value.mono s k) (k := s.size + 2) ?_, hi.trans ⟨fun h => ⟨by omega, by omega, h⟩, fun h => h.2.2⟩⟩
 simp only [attr_Value.f]
 rw [if_neg hn, decide_eq_false h1]
 simp only [attr_Value.j0]
 rw [if_neg (by decide)]
 exact hb
def Small (l : List S91) : Prop := l.length ≤ 1099511627776 ∧ ∀ x ∈ l, x.f0.size ≤ 1099511627776 ∧ x.f1.size ≤ 1099511627776
def ElOK (ch : Bool) (x : S91) : Prop := NameOK x.f0 ∧ (ValOK x.f1 ∨ (ch = true ∧ x.f1.size = 0))
def Srt (l : List S91) : Prop := l.Pairwise (fun x y => ltS x y = true)
def VA (ch : Bool) (l : List S91) : Prop := (∀ x ∈ l, ElOK ch x) ∧ Srt l
def EL (ch : Bool) (l : List S91) (j : Int) : Prop := ElOK ch (rd_T91 l j) ∧ (0 < j → ltS (rd_T91 l (j - 1)) (rd_T91 l j) = true)
theorem rd_mem {l : List S91} {i : Int} (h0 : 0 ≤ i) (h : i < l.length) : rd_T91 l i ∈ l := by
 have : i.toNat < l.length := by omega
 simp only [rd_T91, List.getD_eq_getElem?_getD, List.getElem?_eq_getElem this, Option.getD_some]
 exact List.getElem_mem this
theorem rd_cons {x : S91} {l : List S91} {i : Int} (h0 : 0 ≤ i) : rd_T91 (x :: l) (i + 1) = rd_T91 l i := by
 have : (i + 1).toNat = i.toNat + 1 := by omega
 simp [rd_T91, this]
theorem mem_rd {l : List S91} {x : S91} (h : x ∈ l) : ∃ i : Int, 0 ≤ i ∧ i < l.length ∧ rd_T91 l i = x := by
 obtain ⟨j, hj, e⟩ := List.getElem_of_mem h
 exact ⟨(j : Int), by omega, by omega, by simp [rd_T91, List.getD_eq_getElem?_getD, List.getElem?_eq_getElem hj, e]⟩
theorem va_of_el (ch : Bool) (l : List S91) : (∀ j : Int, 0 ≤ j → j < l.length → EL ch l j) → VA ch l := by
 intro h
 refine ⟨fun x hx => ?_, ?_⟩
 ·obtain ⟨i, h0, h1, rfl⟩ := mem_rd hx
  exact (h i h0 h1).1
 ·have h' : ∀ j : Int, 0 < j → j < l.length → ltS (rd_T91 l (j - 1)) (rd_T91 l j) = true := fun j h0 h1 => (h j (by omega) h1).2 h0
  clear h
  induction l with
  | nil => exact List.Pairwise.nil
  | cons x l ih =>
   have hs : Srt l := ih (fun j h0 h1 => by
    have := h' (j + 1) (by omega) (by simp; omega)
    rw [rd_cons (by omega), show j + 1 - 1 = (j - 1) + 1 by omega, rd_cons (by omega)] at this
    exact this)
   refine List.Pairwise.cons (fun y hy => ?_) hs
   cases l with
   | nil => cases hy
   | cons z t =>
    have hxz : ltS x z = true := by
     have := h' 1 (by omega) (by simp; omega)
     simpa [rd_T91] using this
    rcases List.mem_cons.1 hy with rfl | hy
    ·exact hxz
    ·exact Ord.less_trans hxz ((List.pairwise_cons.1 hs).1 y hy)
theorem el_of_va (ch : Bool) (l : List S91) (h : VA ch l) : ∀ j : Int, 0 ≤ j → j < l.length → EL ch l j := by
 intro j h0 h1
 refine ⟨h.1 _ (rd_mem h0 h1), fun hj => ?_⟩
 have := List.pairwise_iff_getElem.1 h.2 (j - 1).toNat j.toNat (by omega) (by omega) (by omega)
 simpa [rd_T91, List.getD_eq_getElem?_getD, List.getElem?_eq_getElem (show j.toNat - 1 < l.length by omega), List.getElem?_eq_getElem (show j.toNat < l.length by omega)] using this
theorem chk_l0 (l : List S91) (ch : Bool) (hs : Small l) (d : Nat) : ∀ i : Int, 0 ≤ i → i ≤ l.length → (l.length : Int) - i = d →
  ∃ r : Int, Ev (fun k => attr_check.l0 k l ch l (l.length : Int) i) r ∧ (r = 0 ↔ ∀ j : Int, i ≤ j → j < l.length → EL ch l j) := by
 induction d with
 | zero =>
  intro i h0 h1 hd
  refine ⟨0, Ev.step (f := fun _ => some 0) (fun k => ?_) (Ev.now 0), ⟨fun _ j h2 h3 => by omega, fun _ => rfl⟩⟩
  simp only [attr_check.l0]
  rw [if_neg (by omega)]
 | succ d ih =>
  intro i h0 h1 hd
  have hlt : i < (l.length : Int) := by omega
  have hsz := hs.2 _ (rd_mem h0 hlt)
  have hs1 := hs.1
  obtain ⟨b, hb, hbn⟩ := name_ev _ hsz.1
  obtain ⟨c, hc, hcv⟩ := val_ev _ hsz.2
  cases b with
  | false =>
   refine ⟨9, Ev.step (fun k => by simp only [attr_check.l0]; rw [if_pos hlt, if_pos h0, if_pos hlt]) (Ev.bind hb (Ev.congr (fun k => by rw [if_neg (by decide)]) (Ev.now 9))), ⟨fun h => by omega, fun h => ?_⟩⟩
   exact absurd (hbn.2 (h i (Int.le_refl _) hlt).1.1) (by decide)
  | true =>
   have hno := hbn.1 rfl
   have key : ∀ bad : Bool, (bad = false ↔ (ValOK (rd_T91 l i).f1 ∨ (ch = true ∧ (rd_T91 l i).f1.size = 0))) →
     ∃ r : Int, Ev (fun k => attr_check.j1 k l ch i l (l.length : Int) i bad (rd_T91 l i).f0 (rd_T91 l i).f1) r ∧ (r = 0 ↔ ∀ j : Int, i ≤ j → j < l.length → EL ch l j) := by
    intro bad hbad
    cases bad with
    | true =>
     refine ⟨23, Ev.step (fun k => by simp only [attr_check.j1]; rw [if_pos (by decide)]) (Ev.now 23), ⟨fun h => by omega, fun h => ?_⟩⟩
     exact absurd (hbad.2 (h i (Int.le_refl _) hlt).1.2) (by decide)
    | false =>
     have hel : ElOK ch (rd_T91 l i) := ⟨hno, hbad.1 rfl⟩
     obtain ⟨r, hr, hri⟩ := ih (i + 1) (by omega) (by omega) (by omega)
     by_cases hi : i > 0
     ·cases hlt' : ltS (rd_T91 l (i - 1)) (rd_T91 l i) with
      | true =>
       refine ⟨r, Ev.step (fun k => by
        simp only [attr_check.j1]
        rw [if_neg (by decide), if_pos hi, wrap_dn h0 (by omega), if_pos (by omega), if_pos (by omega), if_pos hlt', wrap_up h0 (by omega)]) hr, hri.trans ⟨fun h j h2 h3 => ?_, fun h j h2 h3 => h j (by omega) h3⟩⟩
       rcases Int.lt_or_eq_of_le h2 with h4 | h4
       ·exact h j (by omega) h3
       ·subst h4; exact ⟨hel, fun _ => hlt'⟩
      | false =>
       refine ⟨5, Ev.step (fun k => by
        simp only [attr_check.j1]
        rw [if_neg (by decide), if_pos hi, wrap_dn h0 (by omega), if_pos (by omega), if_pos (by omega), if_neg (fun h => absurd (h.symm.trans hlt') (by decide))]) (Ev.now 5), ⟨fun h => by omega, fun h => ?_⟩⟩
       have := (h i (Int.le_refl _) hlt).2 hi
       rw [hlt'] at this; cases this
     ·refine ⟨r, Ev.step (fun k => by
       simp only [attr_check.j1]
       rw [if_neg (by decide), if_neg hi, wrap_up h0 (by omega)]) hr, hri.trans ⟨fun h j h2 h3 => ?_, fun h j h2 h3 => h j (by omega) h3⟩⟩
      rcases Int.lt_or_eq_of_le h2 with h4 | h4
      ·exact h j (by omega) h3
      ·subst h4; exact ⟨hel, fun h => absurd h hi⟩
   cases c with
   | true =>
    obtain ⟨r, hr, hri⟩ := key false ⟨fun _ => .inl (hcv.1 rfl), fun _ => rfl⟩
    exact ⟨r, Ev.step (fun k => by simp only [attr_check.l0]; rw [if_pos hlt, if_pos h0, if_pos hlt]) (Ev.bind hb (Ev.congr (fun k => by rw [if_pos (by decide)]) (Ev.bind hc (Ev.congr (fun k => by rw [if_pos (by decide)]) hr)))), hri⟩
   | false =>
    have hnv : ¬ ValOK (rd_T91 l i).f1 := fun h => absurd (hcv.2 h) (by decide)
    cases ch with
    | false =>
     obtain ⟨r, hr, hri⟩ := key true ⟨(fun h => by cases h), (fun h => by rcases h with h | ⟨h, _⟩; exact absurd h hnv; cases h)⟩
     exact ⟨r, Ev.step (fun k => by simp only [attr_check.l0]; rw [if_pos hlt, if_pos h0, if_pos hlt]) (Ev.bind hb (Ev.congr (fun k => by rw [if_pos (by decide)]) (Ev.bind hc (Ev.congr (fun k => by rw [if_neg (by decide), if_neg (by decide)]; rfl) hr)))), hri⟩
    | true =>
     obtain ⟨r, hr, hri⟩ := key (!((rd_T91 l i).f1.toList == ([] : List UInt8))) (by
      by_cases he : (rd_T91 l i).f1.toList = []
      ·rw [he]; exact ⟨fun _ => .inr ⟨rfl, list_nil.1 he⟩, fun _ => rfl⟩
      ·exact ⟨(fun h => by simp at h; exact absurd h he), (fun h => by rcases h with h | ⟨_, h⟩; exact absurd h hnv; exact absurd (list_nil.2 h) he)⟩)
     exact ⟨r, Ev.step (fun k => by simp only [attr_check.l0]; rw [if_pos hlt, if_pos h0, if_pos hlt]) (Ev.bind hb (Ev.congr (fun k => by rw [if_pos (by decide)]) (Ev.bind hc (Ev.congr (fun k => by rw [if_neg (by decide), if_pos trivial]) hr)))), hri⟩
theorem chkc_ev (l : List S91) (hs : Small l) : ∃ r : Int, Ev (fun k => attr_CheckChange.f k l) r ∧ (r = 0 ↔ VA true l) := by
 obtain ⟨r, hr, hri⟩ := chk_l0 l true hs l.length 0 (by omega) (by omega) (by omega)
 exact ⟨r, Ev.bind (g := fun k => attr_check.f k l true) hr (Ev.now r), hri.trans ⟨va_of_el true l, el_of_va true l⟩⟩
theorem chk_ev (l : List S91) (hs : Small l) : ∃ r : Int, Ev (fun k => attr_Check.f k l) r ∧ (r = 0 ↔ VA false l) := by
 obtain ⟨r, hr, hri⟩ := chk_l0 l false hs l.length 0 (by omega) (by omega) (by omega)
 exact ⟨r, Ev.bind (g := fun k => attr_check.f k l false) hr (Ev.now r), hri.trans ⟨va_of_el false l, el_of_va false l⟩⟩
def CharOK (c : Int) : Prop := c = 9 ∨ c = 10 ∨ (32 ≤ c ∧ c ≤ 126) ∨ (160 ≤ c ∧ c ≤ 55295) ∨ (57344 ≤ c ∧ c ≤ 1114111)
instance (c : Int) : Decidable (CharOK c) := by unfold CharOK; infer_instance
theorem char_is (c : Int) : flow_Char.f c = some (decide (CharOK c)) := by
 have e : ∀ {p : Prop} [Decidable p] {b : Bool}, (p ↔ b = true) → decide p = b := fun {p} _ {b} h => by
  cases b with
  | true => exact decide_eq_true (h.2 rfl)
  | false => exact decide_eq_false (fun hp => absurd (h.1 hp) (by decide))
 unfold flow_Char.f
 repeat' split
 all_goals
  refine congrArg some (e ?_).symm
  simp only [iff_true, decide_eq_true_eq, Bool.false_eq_true, iff_false, CharOK]
  omega
def ElemOK (x : S26) : Prop := ((x.f0 = 0 ∧ 1 ≤ x.f1 ∧ x.f1 ≤ 1073741824) ∨ (x.f1 = 0 ∧ CharOK x.f0)) ∧ VA false x.f2
theorem not_char0 : ¬ CharOK 0 := by unfold CharOK; omega
theorem elem_ev (x : S26) (hs : Small x.f2) : ∃ r : Int, Ev (fun k => flow_elem.f k x.f0 x.f1 x.f2) r ∧ (r = 0 ↔ ElemOK x) := by
 obtain ⟨a, ha, hai⟩ := chk_ev x.f2 hs
 have last : Ev (fun k => (attr_Check.f k x.f2).bind fun t => some t) a := Ev.bind ha (Ev.now a)
 by_cases h0 : x.f0 = 0
 ·by_cases h1 : x.f1 = 0
  ·refine ⟨4, Ev.congr (fun k => ?_) (Ev.now 4), ⟨fun h => by omega, fun h => ?_⟩⟩
   ·unfold flow_elem.f
    rw [h0, h1]
    rfl
   ·rcases h.1 with h | h
    ·omega
    ·rw [h0] at h; exact absurd h.2 not_char0
  ·have e : ∀ k, flow_elem.f (k + 1) x.f0 x.f1 x.f2 = if x.f1 < 1 then some 2 else if x.f1 > 1073741824 then some 2 else (attr_Check.f k x.f2).bind fun t => some t := fun k => by
    unfold flow_elem.f
    rw [h0, if_neg (by simpa using h1), if_neg h1, flow_elem.j0, if_neg (by decide), if_neg h1]
   by_cases h2 : 1 ≤ x.f1 ∧ x.f1 ≤ 1073741824
   ·refine ⟨a, Ev.step (fun k => by rw [e, if_neg (by omega), if_neg (by omega)]) last, hai.trans ⟨fun h => ⟨.inl ⟨h0, h2⟩, h⟩, fun h => h.2⟩⟩
   ·refine ⟨2, Ev.step (f := fun _ => some 2) (fun k => by rw [e]; split; rfl; rw [if_pos (by omega)]) (Ev.now 2), ⟨fun h => by omega, fun h => ?_⟩⟩
    rcases h.1 with h | h
    ·exact absurd h.2 h2
    ·exact absurd h.1 h1
 ·by_cases h1 : x.f1 = 0
  ·have e : ∀ k, flow_elem.f (k + 1) x.f0 x.f1 x.f2 = if decide (CharOK x.f0) = true then (attr_Check.f k x.f2).bind fun t => some t else some 2 := fun k => by
    unfold flow_elem.f
    rw [h1, if_neg (by simpa using h0), if_pos rfl, char_is, Option.bind_some, flow_elem.j0]
    cases decide (CharOK x.f0) with
    | true => rw [if_neg (show ¬ ((!true) = true) by decide), if_pos rfl, if_pos rfl]
    | false => rw [if_pos (show (!false) = true from rfl), if_neg (by decide)]
   by_cases h2 : CharOK x.f0
   ·refine ⟨a, Ev.step (fun k => by rw [e, if_pos (decide_eq_true h2)]) last, hai.trans ⟨fun h => ⟨.inr ⟨h1, h2⟩, h⟩, fun h => h.2⟩⟩
   ·refine ⟨2, Ev.step (f := fun _ => some 2) (fun k => by rw [e, if_neg (by rw [decide_eq_true_eq]; exact h2)]) (Ev.now 2), ⟨fun h => by omega, fun h => ?_⟩⟩
    rcases h.1 with h | h
    ·exact absurd h.1 h0
    ·exact absurd h.2 h2
  ·refine ⟨4, Ev.congr (fun k => ?_) (Ev.now 4), ⟨fun h => by omega, fun h => ?_⟩⟩
   ·have e0 : (x.f0 != 0) = true := by simpa using h0
    have e1 : (x.f1 != 0) = true := by simpa using h1
    unfold flow_elem.f
    rw [e0, e1, if_pos (show (true == true) = true from rfl)]
   ·rcases h.1 with h | h
    ·exact absurd h.1 h0
    ·exact absurd h.1 h1
def FSmall (f : List S26) : Prop := f.length ≤ 1073741824 ∧ ∀ x ∈ f, Small x.f2 ∧ x.f2.length ≤ 1073741824
theorem rdf_mem {l : List S26} {i : Int} (h0 : 0 ≤ i) (h : i < l.length) : rd_T26 l i ∈ l := by
 have : i.toNat < l.length := by omega
 simp only [rd_T26, List.getD_eq_getElem?_getD, List.getElem?_eq_getElem this, Option.getD_some]
 exact List.getElem_mem this
theorem memf_rd {l : List S26} {x : S26} (h : x ∈ l) : ∃ i : Int, 0 ≤ i ∧ i < l.length ∧ rd_T26 l i = x := by
 obtain ⟨j, hj, e⟩ := List.getElem_of_mem h
 exact ⟨(j : Int), by omega, by omega, by simp [rd_T26, List.getD_eq_getElem?_getD, List.getElem?_eq_getElem hj, e]⟩
def POK (f : List S26) : Prop := ∀ j : Int, 0 ≤ j → j < f.length → ElemOK (rd_T26 f j)
theorem part_l0 (f : List S26) (hs : FSmall f) (d : Nat) : ∀ i : Int, 0 ≤ i → i ≤ f.length → (f.length : Int) - i = d →
  ∃ r : Int, Ev (fun k => flow_CheckPart.l0 k f (f.length : Int) i) r ∧ (r = 0 ↔ ∀ j : Int, i ≤ j → j < f.length → ElemOK (rd_T26 f j)) := by
 induction d with
 | zero =>
  intro i h0 h1 hd
  refine ⟨0, Ev.step (f := fun _ => some 0) (fun k => ?_) (Ev.now 0), ⟨fun _ j h2 h3 => by omega, fun _ => rfl⟩⟩
  simp only [flow_CheckPart.l0]
  rw [if_neg (by omega)]
 | succ d ih =>
  intro i h0 h1 hd
  have hlt : i < (f.length : Int) := by omega
  have hs1 := hs.1
  obtain ⟨e, he, hei⟩ := elem_ev (rd_T26 f i) (hs.2 _ (rdf_mem h0 hlt)).1
  obtain ⟨r, hr, hri⟩ := ih (i + 1) (by omega) (by omega) (by omega)
  by_cases hz : e = 0
  ·subst hz
   refine ⟨r, Ev.step (fun k => by simp only [flow_CheckPart.l0]; rw [if_pos hlt, if_pos h0, if_pos hlt, wrap_up h0 (by omega)]) (Ev.bind he (Ev.congr (fun k => by rw [if_pos rfl]) hr)), hri.trans ⟨fun h j h2 h3 => ?_, fun h j h2 h3 => h j (by omega) h3⟩⟩
   rcases Int.lt_or_eq_of_le h2 with h4 | h4
   ·exact h j (by omega) h3
   ·subst h4; exact hei.1 rfl
  ·refine ⟨e, Ev.step (fun k => by simp only [flow_CheckPart.l0]; rw [if_pos hlt, if_pos h0, if_pos hlt]) (Ev.bind he (Ev.congr (fun k => by rw [if_neg hz]) (Ev.now e))), ⟨fun h => absurd h hz, fun h => ?_⟩⟩
   exact hei.2 (h i (Int.le_refl _) hlt)
theorem part_ev (f : List S26) (hs : FSmall f) : ∃ r : Int, Ev (fun k => flow_CheckPart.f k f) r ∧ (r = 0 ↔ POK f) := part_l0 f hs f.length 0 (by omega) (by omega) (by omega)
theorem copy_l0 (f : List S26) (hs : FSmall f) (d : Nat) : ∀ (i : Nat), i + d = f.length → Ev (fun k => flow_Copy.l0 k (f.take i ++ List.replicate (f.length - i) z26) f (f.length : Int) (i : Int)) f := by
 induction d with
 | zero =>
  intro i hi
  refine Ev.step (f := fun _ => some f) (fun k => ?_) (Ev.now f)
  simp only [flow_Copy.l0]
  rw [if_neg (by omega), show i = f.length by omega]
  simp
 | succ d ih =>
  intro i hi
  have hs1 := hs.1
  have hlt : (i : Int) < (f.length : Int) := by omega
  refine Ev.step (fun k => ?_) (ih (i + 1) (by omega))
  have hlen : (f.take i ++ List.replicate (f.length - i) z26).length = f.length := by simp; omega
  have hx : rd_T26 f (i : Int) = f[i]'(by omega) := by
   simp [rd_T26, List.getD_eq_getElem?_getD, List.getElem?_eq_getElem (show i < f.length by omega)]
  have h2 := (hs.2 _ (rdf_mem (l := f) (i := (i : Int)) (by omega) hlt)).2
  simp only [flow_Copy.l0]
  rw [if_pos hlt, if_pos (by omega), if_pos hlt, if_pos (by simp; omega), if_pos (by rw [hlen]; exact hlt), wrap_up (by omega) (by omega), show ((i : Int) + 1) = ((i + 1 : Nat) : Int) from by omega]
  have hset : (f.take i ++ List.replicate (f.length - i) z26).set (i : Int).toNat (⟨(rd_T26 f (i : Int)).f0, (rd_T26 f (i : Int)).f1, ([] : List S91) ++ (rd_T26 f (i : Int)).f2⟩ : S26) = f.take (i + 1) ++ List.replicate (f.length - (i + 1)) z26 := by
   rw [List.nil_append, Int.toNat_natCast]
   have hn : f.length - i = (f.length - (i + 1)) + 1 := by omega
   rw [hn, List.replicate_succ, List.set_append_right _ _ (by simp; omega)]
   have : i - (f.take i).length = 0 := by simp; omega
   have ht : f.take (i + 1) = f.take i ++ [f[i]'(by omega)] := by
    rw [List.take_add_one, List.getElem?_eq_getElem (show i < f.length by omega)]
    rfl
   rw [this, List.set_cons_zero, hx, ht, List.append_assoc]
   rfl
  rw [hset]
theorem copy_ev (f : List S26) (hs : FSmall f) : Ev (fun k => flow_Copy.f k f) f := by
 have hs1 := hs.1
 refine Ev.congr (fun k => ?_) (copy_l0 f hs f.length 0 (by omega))
 unfold flow_Copy.f
 rw [if_pos (by omega), if_pos (by omega)]
 simp
theorem within_ev (v hi : Int) (h1 : 0 ≤ hi) (h2 : hi ≤ 1099511627776) : ∃ r, chanceryref1_Within.f v 0 hi = some r ∧ 0 ≤ r ∧ r ≤ hi := by
 have wm : ∀ {i : Int}, 0 ≤ i → i ≤ 4611686018427387904 → wrap64 i = i := fun {i} a b => by unfold wrap64; omega
 unfold chanceryref1_Within.f
 rw [show wrap64 (hi - 0) = hi - 0 from wm (by omega) (by omega), show wrap64 (hi - 0 + 1) = hi - 0 + 1 from wm (by omega) (by omega), if_neg (by omega)]
 obtain ⟨n, hn⟩ : ∃ n, n = hi - 0 + 1 := ⟨_, rfl⟩
 rw [← hn]
 refine ⟨_, rfl, ?_⟩
 have h3 : -n < Int.tmod v n ∧ Int.tmod v n < n := ⟨Int.lt_tmod_of_pos v (by omega), Int.tmod_lt_of_pos v (by omega)⟩
 have h4 : wrap64 (Int.tmod v n + n) = Int.tmod v n + n := wm (by omega) (by omega)
 rw [h4]
 have h5 : 0 ≤ Int.tmod (Int.tmod v n + n) n := Int.tmod_nonneg _ (by omega)
 have h6 : Int.tmod (Int.tmod v n + n) n < n := Int.tmod_lt_of_pos _ (by omega)
 rw [wm (by omega) (by omega)]
 omega
theorem s91_ext {x y : S91} (h0 : x.f0.toList = y.f0.toList) (h1 : x.f1.toList = y.f1.toList) : x = y := by
 cases x; cases y
 cases ba_ext h0
 cases ba_ext h1
 rfl
def mrg (E : S91 → S91 → Option S91) : List S91 → List S91 → List S91
 | [], [] => []
 | x :: a, [] => (E x nil91).toList ++ mrg E a []
 | [], y :: b => (E nil91 y).toList ++ mrg E [] b
 | x :: a, y :: b => if ltS x y = true then (E x nil91).toList ++ mrg E a (y :: b) else if ltS y x = true then (E nil91 y).toList ++ mrg E (x :: a) b else (E x y).toList ++ mrg E a b
termination_by a b => a.length + b.length
theorem bothL_mrg (V : List S91 → S91 → S91 → List S91) (E : S91 → S91 → Option S91) (h : ∀ o x y, V o x y = o ++ (E x y).toList) : ∀ (a b o : List S91), bothL V o a b = o ++ mrg E a b := by
 intro a b
 induction a, b using mrg.induct with
 | case1 => intro o; rw [bothL, mrg, List.append_nil]
 | case2 x a ih => intro o; rw [bothL, mrg, ih, h]; exact List.append_assoc _ _ _
 | case3 y b ih => intro o; rw [bothL, mrg, ih, h]; exact List.append_assoc _ _ _
 | case4 x a y b hlt ih => intro o; rw [bothL, mrg, if_pos hlt, if_pos hlt, ih, h]; exact List.append_assoc _ _ _
 | case5 x a y b hlt hlt' ih => intro o; rw [bothL, mrg, if_neg hlt, if_neg hlt, if_pos hlt', if_pos hlt', ih, h]; exact List.append_assoc _ _ _
 | case6 x a y b hlt hlt' ih => intro o; rw [bothL, mrg, if_neg hlt, if_neg hlt, if_neg hlt', if_neg hlt', ih, h]; exact List.append_assoc _ _ _
def rawE (x y : S91) : Option S91 := if y.f0.toList = [] then some x else if y.f1.toList = [] then none else some y
theorem fold_mrg {V : List S91 → S91 → S91 → List S91} {E : S91 → S91 → Option S91} (h : ∀ o x y, V o x y = o ++ (E x y).toList) (a b : List S91) : bothL V [] a b = mrg E a b := by rw [bothL_mrg V E h, List.nil_append]
theorem rawV_E (o : List S91) (x y : S91) : rawV o x y = o ++ (rawE x y).toList := by
 unfold rawV rawE
 by_cases h1 : y.f0.toList = []
 ·rw [if_pos h1, if_pos h1]; rfl
 ·rw [if_neg h1, if_neg h1]
  by_cases h2 : y.f1.toList = []
  ·rw [if_pos h2, if_pos h2]; exact (List.append_nil _).symm
  ·rw [if_neg h2, if_neg h2]; rfl
theorem raw_f {a b : List S91} (ha : a.length ≤ 1073741824) (hb : b.length ≤ 1073741824) : attr_Raw.f a b = some (mrg rawE a b) := by
 unfold attr_Raw.f; rw [if_pos (by omega), fold_mrg rawV_E]
theorem drop_T91 (l : List S91) (i : Nat) (h : i < l.length) : l.drop i = rd_T91 l (i : Int) :: l.drop (i + 1) := by
 rw [List.drop_eq_getElem_cons h]
 simp [rd_T91, List.getD_eq_getElem?_getD, List.getElem?_eq_getElem h]
theorem neq_cond (x y : S91) : ((!(x.f0.toList == y.f0.toList) || (!(x.f1.toList == y.f1.toList))) = true) ↔ x ≠ y := by
 rw [Bool.or_eq_true, Bool.not_eq_true', Bool.not_eq_true', beq_eq_false_iff_ne, beq_eq_false_iff_ne]
 constructor
 ·rintro h rfl
  rcases h with h | h <;> exact h rfl
 ·intro h
  by_cases h0 : x.f0.toList = y.f0.toList
  ·exact .inr (fun h1 => h (s91_ext h0 h1))
  ·exact .inl h0
theorem asame_l0 (a b : List S91) (hs : a.length ≤ 1099511627776) (hl : a.length = b.length) (d : Nat) : ∀ i : Nat, i + d = a.length → ∃ r, Ev (fun k => attr_Same.l0 k a b (a.length : Int) (i : Int)) r ∧ (r = true ↔ a.drop i = b.drop i) := by
 induction d with
 | zero =>
  intro i hi
  refine ⟨true, Ev.step (f := fun _ => some true) (fun k => ?_) (Ev.now true), ⟨fun _ => by rw [List.drop_eq_nil_of_le (by omega), List.drop_eq_nil_of_le (by omega)], fun _ => rfl⟩⟩
  simp only [attr_Same.l0]
  rw [if_neg (by omega)]
 | succ d ih =>
  intro i hi
  obtain ⟨r, hr, hri⟩ := ih (i + 1) (by omega)
  have e : ∀ k, attr_Same.l0 (k + 1) a b (a.length : Int) (i : Int) = if (!(((rd_T91 a (i : Int)).f0).toList == ((rd_T91 b (i : Int)).f0).toList) || (!(((rd_T91 a (i : Int)).f1).toList == ((rd_T91 b (i : Int)).f1).toList))) = true then some false else attr_Same.l0 k a b (a.length : Int) ((i + 1 : Nat) : Int) := fun k => by
   simp only [attr_Same.l0]
   rw [if_pos (by omega), if_pos (by omega), if_pos (by omega), if_pos (by omega), wrap_up (by omega) (by omega)]
   rfl
  rw [drop_T91 a i (by omega), drop_T91 b i (by omega)]
  by_cases hx : rd_T91 a (i : Int) = rd_T91 b (i : Int)
  ·refine ⟨r, Ev.step (fun k => by rw [e, if_neg (fun h => (neq_cond _ _).1 h hx)]) hr, hri.trans ⟨fun h => by rw [hx, h], fun h => (List.cons.inj h).2⟩⟩
  ·exact ⟨false, Ev.step (f := fun _ => some false) (fun k => by rw [e, if_pos ((neq_cond _ _).2 hx)]) (Ev.now false), ⟨(fun h => by cases h), (fun h => absurd (List.cons.inj h).1 hx)⟩⟩
theorem asame_ev (a b : List S91) (hs : a.length ≤ 1099511627776) : ∃ r, Ev (fun k => attr_Same.f k a b) r ∧ (r = true ↔ a = b) := by
 by_cases hl : a.length = b.length
 ·obtain ⟨r, hr, hri⟩ := asame_l0 a b hs hl a.length 0 (by omega)
  refine ⟨r, Ev.congr (fun k => ?_) hr, hri⟩
  unfold attr_Same.f
  rw [if_pos (by omega)]
  rfl
 ·refine ⟨false, Ev.congr (fun k => ?_) (Ev.now false), ⟨(fun h => by cases h), (fun h => absurd (congrArg List.length h) hl)⟩⟩
  unfold attr_Same.f
  rw [if_neg (by omega)]
theorem rsame_l0 (a b : List S91) (hs : a.length ≤ 1099511627776) (hl : a.length = b.length) (d : Nat) : ∀ i : Nat, i + d = a.length → ∃ r, Ev (fun k => chanceryref1_SameAttrs.l0 k a b (a.length : Int) (i : Int)) r ∧ (r = true ↔ a.drop i = b.drop i) := by
 induction d with
 | zero =>
  intro i hi
  refine ⟨true, Ev.step (f := fun _ => some true) (fun k => ?_) (Ev.now true), ⟨fun _ => by rw [List.drop_eq_nil_of_le (by omega), List.drop_eq_nil_of_le (by omega)], fun _ => rfl⟩⟩
  simp only [chanceryref1_SameAttrs.l0]
  rw [if_neg (by omega)]
 | succ d ih =>
  intro i hi
  obtain ⟨r, hr, hri⟩ := ih (i + 1) (by omega)
  have e : ∀ k, chanceryref1_SameAttrs.l0 (k + 1) a b (a.length : Int) (i : Int) = if (!(((rd_T91 a (i : Int)).f0).toList == ((rd_T91 b (i : Int)).f0).toList) || (!(((rd_T91 a (i : Int)).f1).toList == ((rd_T91 b (i : Int)).f1).toList))) = true then some false else chanceryref1_SameAttrs.l0 k a b (a.length : Int) ((i + 1 : Nat) : Int) := fun k => by
   simp only [chanceryref1_SameAttrs.l0]
   rw [if_pos (by omega), if_pos (by omega), if_pos (by omega), if_pos (by omega), wrap_up (by omega) (by omega)]
   rfl
  rw [drop_T91 a i (by omega), drop_T91 b i (by omega)]
  by_cases hx : rd_T91 a (i : Int) = rd_T91 b (i : Int)
  ·refine ⟨r, Ev.step (fun k => by rw [e, if_neg (fun h => (neq_cond _ _).1 h hx)]) hr, hri.trans ⟨fun h => by rw [hx, h], fun h => (List.cons.inj h).2⟩⟩
  ·exact ⟨false, Ev.step (f := fun _ => some false) (fun k => by rw [e, if_pos ((neq_cond _ _).2 hx)]) (Ev.now false), ⟨(fun h => by cases h), (fun h => absurd (List.cons.inj h).1 hx)⟩⟩
theorem rsame_ev (a b : List S91) (hs : a.length ≤ 1099511627776) : ∃ r, Ev (fun k => chanceryref1_SameAttrs.f k a b) r ∧ (r = true ↔ a = b) := by
 by_cases hl : a.length = b.length
 ·obtain ⟨r, hr, hri⟩ := rsame_l0 a b hs hl a.length 0 (by omega)
  refine ⟨r, Ev.congr (fun k => ?_) hr, hri⟩
  unfold chanceryref1_SameAttrs.f
  rw [if_pos (by omega)]
  rfl
 ·refine ⟨false, Ev.congr (fun k => ?_) (Ev.now false), ⟨(fun h => by cases h), (fun h => absurd (congrArg List.length h) hl)⟩⟩
  unfold chanceryref1_SameAttrs.f
  rw [if_neg (by omega)]
def StepOK (s : S95) : Prop :=
 (s.f0 = 0 ∧ 1 ≤ s.f1 ∧ s.f1 ≤ 2147483647 ∧ s.f3 = [] ∧ VA true s.f2) ∨ (s.f0 = 1 ∧ s.f1 = 0 ∧ s.f2 = [] ∧ s.f3 ≠ [] ∧ POK s.f3) ∨ (s.f0 = 2 ∧ 1 ≤ s.f1 ∧ s.f1 ≤ 2147483647 ∧ s.f3 = [] ∧ s.f2 = [])
def SSm (s : S95) : Prop := Small s.f2 ∧ FSmall s.f3
theorem va_nil (ch : Bool) : VA ch [] := ⟨(fun x hx => by cases hx), List.Pairwise.nil⟩
theorem len_pos {α : Type} {l : List α} : (l.length : Int) > 0 ↔ l ≠ [] := by
 cases l with
 | nil => simp
 | cons a l => simp
theorem step_ev (s : S95) (hs : SSm s) : ∃ r : Int, Ev (fun k => delta_step.f k s.f0 s.f1 s.f2 s.f3) r ∧ (r = 0 ↔ StepOK s) := by
 obtain ⟨c, hc, hci⟩ := chkc_ev s.f2 hs.1
 obtain ⟨p, hp, hpi⟩ := part_ev s.f3 hs.2
 have j1 : ∀ b : Bool, ∃ r : Int, Ev (fun k => delta_step.j1 k b s.f0 s.f1 s.f2 s.f3) r ∧ (r = 0 ↔ b = false ∧ 1 ≤ s.f1 ∧ s.f1 ≤ 2147483647 ∧ VA true s.f2) := by
  intro b
  cases b with
  | true => exact ⟨4, Ev.step (f := fun _ => some 4) (fun k => by simp only [delta_step.j1]; rw [if_pos trivial]) (Ev.now 4), by simp⟩
  | false =>
   by_cases h1 : s.f1 < 1
   ·exact ⟨2, Ev.step (f := fun _ => some 2) (fun k => by simp only [delta_step.j1]; rw [if_neg (by decide), if_pos h1]) (Ev.now 2), ⟨fun h => by omega, fun h => by omega⟩⟩
   by_cases h2 : s.f1 > 2147483647
   ·exact ⟨2, Ev.step (f := fun _ => some 2) (fun k => by simp only [delta_step.j1]; rw [if_neg (by decide), if_neg h1, if_pos h2]) (Ev.now 2), ⟨fun h => by omega, fun h => by omega⟩⟩
   exact ⟨c, Ev.step (fun k => by simp only [delta_step.j1]; rw [if_neg (by decide), if_neg h1, if_neg h2]) (Ev.bind hc (Ev.now c)), hci.trans ⟨fun h => ⟨rfl, by omega, by omega, h⟩, fun h => h.2.2.2⟩⟩
 have j2 : ∀ b : Bool, ∃ r : Int, Ev (fun k => delta_step.j2 k b s.f0 s.f1 s.f2 s.f3) r ∧ (r = 0 ↔ b = false ∧ s.f3 ≠ [] ∧ POK s.f3) := by
  intro b
  cases b with
  | true => exact ⟨4, Ev.step (f := fun _ => some 4) (fun k => by simp only [delta_step.j2]; rw [if_pos trivial]) (Ev.now 4), by simp⟩
  | false =>
   by_cases h1 : s.f3 = []
   ·exact ⟨11, Ev.step (f := fun _ => some 11) (fun k => by simp only [delta_step.j2]; rw [if_neg (by decide), if_pos (by rw [h1]; rfl)]) (Ev.now 11), ⟨fun h => by omega, fun h => absurd h1 h.2.1⟩⟩
   ·exact ⟨p, Ev.step (fun k => by simp only [delta_step.j2]; rw [if_neg (by decide), if_neg (by have := len_pos.2 h1; omega)]) (Ev.bind hp (Ev.now p)), hpi.trans ⟨fun h => ⟨rfl, h1, h⟩, fun h => h.2.2⟩⟩
 have kc : ∀ (f : Nat → Option Int), (∀ k, f (k + 1) = delta_step.j0 (k + 1) s.f0 true s.f0 s.f1 s.f2 s.f3) → (s.f0 = 0 ∨ s.f0 = 2) → ∃ r : Int, Ev f r ∧ (r = 0 ↔ StepOK s) := by
  intro f hf hk
  by_cases h3 : s.f3 = []
  ·by_cases hcut : s.f0 = 2
   ·obtain ⟨r, hr, hri⟩ := j1 (decide ((s.f2.length : Int) > 0))
    refine ⟨r, Ev.step (fun k => by rw [hf]; simp only [delta_step.j0]; rw [if_pos trivial, if_neg (by rw [h3]; decide), if_pos hcut]) hr, hri.trans ⟨fun h => ?_, fun h => ?_⟩⟩
    ·have h2 : s.f2 = [] := Classical.byContradiction (fun hn => absurd h.1 (by rw [decide_eq_true (len_pos.2 hn)]; decide))
     exact .inr (.inr ⟨hcut, h.2.1, h.2.2.1, h3, h2⟩)
    ·rcases h with h | h | h
     ·omega
     ·omega
     ·exact ⟨by rw [h.2.2.2.2]; rfl, h.2.1, h.2.2.1, by rw [h.2.2.2.2]; exact va_nil _⟩
   ·obtain ⟨r, hr, hri⟩ := j1 false
    refine ⟨r, Ev.step (fun k => by rw [hf]; simp only [delta_step.j0]; rw [if_pos trivial, if_neg (by rw [h3]; decide), if_neg hcut]) hr, hri.trans ⟨fun h => .inl ⟨by omega, h.2.1, h.2.2.1, h3, h.2.2.2⟩, fun h => ?_⟩⟩
    rcases h with h | h | h
    ·exact ⟨rfl, h.2.1, h.2.2.1, h.2.2.2.2⟩
    ·omega
    ·omega
  ·obtain ⟨r, hr, hri⟩ := j1 true
   refine ⟨r, Ev.step (fun k => by rw [hf]; simp only [delta_step.j0]; rw [if_pos trivial, if_pos (len_pos.2 h3)]) hr, hri.trans ⟨(fun h => by cases h.1), fun h => ?_⟩⟩
   rcases h with h | h | h
   ·exact absurd h.2.2.2.1 h3
   ·omega
   ·exact absurd h.2.2.2.1 h3
 by_cases h0 : s.f0 = 0
 ·exact kc _ (fun k => by unfold delta_step.f; rw [if_pos h0, h0]; rfl) (.inl h0)
 by_cases h2 : s.f0 = 2
 ·exact kc _ (fun k => by unfold delta_step.f; rw [if_neg h0, h2]; rfl) (.inr h2)
 have e : ∀ k, delta_step.f (k + 1) s.f0 s.f1 s.f2 s.f3 = if s.f0 = 1 then (if s.f1 = 0 then delta_step.j2 k (decide ((s.f2.length : Int) > 0)) s.f0 s.f1 s.f2 s.f3 else delta_step.j2 k true s.f0 s.f1 s.f2 s.f3) else some 8 := fun k => by
  unfold delta_step.f
  rw [if_neg h0, show (s.f0 == 2) = false from beq_eq_false_iff_ne.mpr h2]
  simp only [delta_step.j0]
  rw [if_neg (by decide)]
 by_cases h1 : s.f0 = 1
 ·by_cases hn : s.f1 = 0
  ·obtain ⟨r, hr, hri⟩ := j2 (decide ((s.f2.length : Int) > 0))
   refine ⟨r, Ev.step (fun k => by rw [e, if_pos h1, if_pos hn]) hr, hri.trans ⟨fun h => ?_, fun h => ?_⟩⟩
   ·have h2 : s.f2 = [] := Classical.byContradiction (fun hn => absurd h.1 (by rw [decide_eq_true (len_pos.2 hn)]; decide))
    exact .inr (.inl ⟨h1, hn, h2, h.2.1, h.2.2⟩)
   ·rcases h with h | h | h
    ·omega
    ·exact ⟨by rw [h.2.2.1]; rfl, h.2.2.2.1, h.2.2.2.2⟩
    ·omega
  ·obtain ⟨r, hr, hri⟩ := j2 true
   refine ⟨r, Ev.step (fun k => by rw [e, if_pos h1, if_neg hn]) hr, hri.trans ⟨(fun h => by cases h.1), fun h => ?_⟩⟩
   rcases h with h | h | h <;> omega
 ·refine ⟨8, Ev.step (f := fun _ => some 8) (fun k => by rw [e, if_neg h1]) (Ev.now 8), ⟨fun h => by omega, fun h => ?_⟩⟩
  rcases h with h | h | h <;> omega
def Adj (p s : S95) : Prop := ¬ (p.f0 = s.f0 ∧ (s.f0 ≠ 0 ∨ p.f2 = s.f2)) ∧ ¬ (p.f0 = 2 ∧ s.f0 = 1)
def ordOK : Option S95 → List S95 → Prop
 | _, [] => True
 | p, s :: r => (∀ q, p = some q → Adj q s) ∧ ordOK (some s) r
def oldS (s : S95) : Int := if s.f0 = 1 then 0 else s.f1
def newS (s : S95) : Int := if s.f0 = 2 then 0 else if s.f0 = 1 then (s.f3.length : Int) else s.f1
def old : List S95 → Int
 | [] => 0
 | s :: r => oldS s + old r
def new : List S95 → Int
 | [] => 0
 | s :: r => newS s + new r
structure DOK (d : List S95) : Prop where
 ok : ∀ s ∈ d, StepOK s
 ord : ordOK none d
 old : old d ≤ 2147483647
 new : new d ≤ 2147483647
def DSm (d : List S95) : Prop := d.length ≤ 1073741824 ∧ ∀ s ∈ d, SSm s
theorem rd95_mem {l : List S95} {i : Nat} (h : i < l.length) : rd_T95 l (i : Int) ∈ l := by
 simp only [rd_T95, Int.toNat_natCast, List.getD_eq_getElem?_getD, List.getElem?_eq_getElem h, Option.getD_some]
 exact List.getElem_mem h
theorem oldS_nn {s : S95} (h : StepOK s) : 0 ≤ oldS s ∧ oldS s ≤ 2147483647 := by
 unfold oldS
 rcases h with h | h | h <;> split <;> omega
theorem newS_nn {s : S95} (h : StepOK s) (hs : SSm s) : 0 ≤ newS s ∧ newS s ≤ 2147483647 := by
 have := hs.2.1
 unfold newS
 rcases h with h | h | h
 ·rw [if_neg (by omega), if_neg (by omega)]; omega
 ·rw [if_neg (by omega), if_pos h.1]; omega
 ·rw [if_pos h.1]; omega
theorem old_nn : ∀ {d : List S95}, (∀ s ∈ d, StepOK s) → 0 ≤ old d
 | [], _ => Int.le_refl _
 | s :: r, h => by
  have h1 := oldS_nn (h s List.mem_cons_self)
  have h2 := old_nn (d := r) (fun x hx => h x (List.mem_cons_of_mem _ hx))
  rw [old]
  omega
theorem new_nn : ∀ {d : List S95}, (∀ s ∈ d, StepOK s) → (∀ s ∈ d, SSm s) → 0 ≤ new d
 | [], _, _ => Int.le_refl _
 | s :: r, h, hs => by
  have h1 := newS_nn (h s List.mem_cons_self) (hs s List.mem_cons_self)
  have h2 := new_nn (d := r) (fun x hx => h x (List.mem_cons_of_mem _ hx)) (fun x hx => hs x (List.mem_cons_of_mem _ hx))
  rw [new]
  omega
theorem mn_cap {a : Int} : mn a 2147483648 = if a ≤ 2147483648 then a else 2147483648 := by unfold mn; split <;> split <;> omega
def prev (d : List S95) : Nat → Option S95
 | 0 => none
 | i + 1 => some (rd_T95 d (i : Int))
theorem adj_prev {d : List S95} {i : Nat} (h0 : 0 < i) (P : Prop) : (∀ q, prev d i = some q → Adj q (rd_T95 d (i : Int))) ↔ Adj (rd_T95 d ((i : Int) - 1)) (rd_T95 d (i : Int)) := by
 obtain ⟨j, rfl⟩ : ∃ j, i = j + 1 := ⟨i - 1, by omega⟩
 rw [show ((j + 1 : Nat) : Int) - 1 = (j : Int) by omega]
 exact ⟨fun h => h _ rfl, fun h q hq => by cases hq; exact h⟩
def RestOK (p : Option S95) (r : List S95) (b a : Int) : Prop := (∀ s ∈ r, StepOK s) ∧ ordOK p r ∧ b + old r ≤ 2147483647 ∧ a + new r ≤ 2147483647
theorem rest_cons {p : Option S95} {s : S95} {r : List S95} {b a : Int} : RestOK p (s :: r) b a ↔ StepOK s ∧ (∀ q, p = some q → Adj q s) ∧ RestOK (some s) r (b + oldS s) (a + newS s) := by
 unfold RestOK
 rw [ordOK, old, new]
 constructor
 ·rintro ⟨h1, ⟨h2, h3⟩, h4, h5⟩
  exact ⟨h1 s List.mem_cons_self, h2, fun x hx => h1 x (List.mem_cons_of_mem _ hx), h3, by omega, by omega⟩
 ·rintro ⟨h1, h2, h3, h4, h5, h6⟩
  exact ⟨fun x hx => by rcases List.mem_cons.1 hx with rfl | hx; exact h1; exact h3 x hx, ⟨h2, h4⟩, by omega, by omega⟩
theorem rest_cap {p : Option S95} {r : List S95} {b a b' a' : Int} (hs : ∀ s ∈ r, SSm s) (hb : b = b' ∨ (2147483647 < b ∧ 2147483647 < b')) (ha : a = a' ∨ (2147483647 < a ∧ 2147483647 < a')) : RestOK p r b a ↔ RestOK p r b' a' := by
 unfold RestOK
 constructor
 ·rintro ⟨h1, h2, h3, h4⟩
  have := old_nn h1
  have := new_nn h1 hs
  exact ⟨h1, h2, by omega, by omega⟩
 ·rintro ⟨h1, h2, h3, h4⟩
  have := old_nn h1
  have := new_nn h1 hs
  exact ⟨h1, h2, by omega, by omega⟩
theorem size_is (s : S95) : delta_size.f s.f0 s.f1 s.f2 s.f3 = some (if s.f0 = 1 then (s.f3.length : Int) else s.f1) := by
 unfold delta_size.f
 split <;> rfl
theorem w64 {i : Int} (h0 : -4611686018427387904 ≤ i) (h : i ≤ 4611686018427387904) : wrap64 i = i := by unfold wrap64; omega
theorem check_l0 (d : List S95) (hs : DSm d) (n : Nat) : ∀ (i : Nat) (b a : Int), i + n = d.length → 0 ≤ b → b ≤ 2147483648 → 0 ≤ a → a ≤ 2147483648 →
  ∃ r : Int, Ev (fun k => delta_Check.l0 k d b a d (d.length : Int) (i : Int)) r ∧ (r = 0 ↔ RestOK (prev d i) (d.drop i) b a) := by
 have hs1 := hs.1
 induction n with
 | zero =>
  intro i b a hi hb0 hb ha0 ha
  have e : ∀ k, delta_Check.l0 (k + 1) d b a d (d.length : Int) (i : Int) = if b > 2147483647 then some 3 else if a > 2147483647 then some 3 else some 0 := fun k => by
   simp only [delta_Check.l0]
   rw [if_neg (by omega)]
  rw [List.drop_eq_nil_of_le (by omega)]
  have hR : RestOK (prev d i) [] b a ↔ b ≤ 2147483647 ∧ a ≤ 2147483647 := ⟨fun h => by have := h.2.2; simp [old, new] at this; exact this, fun h => ⟨(fun s hs => by cases hs), trivial, by simp [old]; exact h.1, by simp [new]; exact h.2⟩⟩
  rw [hR]
  by_cases h1 : b > 2147483647
  ·exact ⟨3, Ev.step (f := fun _ => some 3) (fun k => by rw [e, if_pos h1]) (Ev.now 3), ⟨fun h => by omega, fun h => by omega⟩⟩
  by_cases h2 : a > 2147483647
  ·exact ⟨3, Ev.step (f := fun _ => some 3) (fun k => by rw [e, if_neg h1, if_pos h2]) (Ev.now 3), ⟨fun h => by omega, fun h => by omega⟩⟩
  exact ⟨0, Ev.step (f := fun _ => some 0) (fun k => by rw [e, if_neg h1, if_neg h2]) (Ev.now 0), ⟨fun h => by omega, fun h => rfl⟩⟩
 | succ n ih =>
  intro i b a hi hb0 hb ha0 ha
  have hlt : i < d.length := by omega
  have hsm := hs.2 _ (rd95_mem hlt)
  rw [drop_T95 d i hlt]
  obtain ⟨r0, hr0, hri0⟩ := step_ev _ hsm
  obtain ⟨s, hsd⟩ : ∃ s, s = rd_T95 d (i : Int) := ⟨_, rfl⟩
  rw [← hsd] at hsm hr0 hri0
  rw [rest_cons, ← hsd]
  have hrs : ∀ x ∈ d.drop (i + 1), SSm x := fun x hx => hs.2 x (List.mem_of_mem_drop hx)
  have j1 : StepOK s → ∃ r : Int, Ev (fun k => delta_Check.j1 k d b a d (d.length : Int) (i : Int) s.f0 s.f1 s.f2 s.f3) r ∧ (r = 0 ↔ RestOK (some s) (d.drop (i + 1)) (b + oldS s) (a + newS s)) := by
   intro hok
   have ho := oldS_nn hok
   have hn := newS_nn hok hsm
   have pe : prev d (i + 1) = some s := by rw [prev, hsd]
   by_cases h1 : s.f0 = 1
   ·have h2 : ¬ s.f0 = 2 := by omega
    have e1 : oldS s = 0 := if_pos h1
    have e2 : newS s = (s.f3.length : Int) := by unfold newS; rw [if_neg h2, if_pos h1]
    obtain ⟨r, hr, hri⟩ := ih (i + 1) b (mn (a + (s.f3.length : Int)) 2147483648) (by omega) hb0 hb (by rw [mn_cap]; split <;> omega) (by rw [mn_cap]; split <;> omega)
    refine ⟨r, Ev.step (fun k => by
     simp only [delta_Check.j1]
     rw [if_pos h1, if_neg h2, size_is, Option.bind_some, if_pos h1, wrap_up (by omega) (by omega), w64 (by omega) (by omega)]
     rfl) hr, hri.trans ?_⟩
    rw [pe, e1, e2]
    exact rest_cap hrs (by omega) (by rw [mn_cap]; split <;> omega)
   by_cases h2 : s.f0 = 2
   ·have e1 : oldS s = s.f1 := if_neg h1
    have e2 : newS s = 0 := if_pos h2
    obtain ⟨r, hr, hri⟩ := ih (i + 1) (mn (b + s.f1) 2147483648) a (by omega) (by rw [mn_cap]; split <;> omega) (by rw [mn_cap]; split <;> omega) ha0 ha
    refine ⟨r, Ev.step (fun k => by
     simp only [delta_Check.j1]
     rw [if_neg h1, if_pos h2, wrap_up (by omega) (by omega), w64 (by omega) (by omega)]
     rfl) hr, hri.trans ?_⟩
    rw [pe, e1, e2]
    exact rest_cap hrs (by rw [mn_cap]; split <;> omega) (by omega)
   ·have e1 : oldS s = s.f1 := if_neg h1
    have e2 : newS s = s.f1 := by unfold newS; rw [if_neg h2, if_neg h1]
    obtain ⟨r, hr, hri⟩ := ih (i + 1) (mn (b + s.f1) 2147483648) (mn (a + s.f1) 2147483648) (by omega) (by rw [mn_cap]; split <;> omega) (by rw [mn_cap]; split <;> omega) (by rw [mn_cap]; split <;> omega) (by rw [mn_cap]; split <;> omega)
    refine ⟨r, Ev.step (fun k => by
     simp only [delta_Check.j1]
     rw [if_neg h1, if_neg h2, size_is, Option.bind_some, if_neg h1, wrap_up (by omega) (by omega), w64 (i := b + s.f1) (by omega) (by omega), w64 (by omega) (by omega)]
     rfl) hr, hri.trans ?_⟩
    rw [pe, e1, e2]
    exact rest_cap hrs (by rw [mn_cap]; split <;> omega) (by rw [mn_cap]; split <;> omega)
  have e0 : ∀ k, delta_Check.l0 (k + 1) d b a d (d.length : Int) (i : Int) = (delta_step.f k s.f0 s.f1 s.f2 s.f3).bind fun t => if t = 0 then (if (i : Int) > 0 then
    (if (rd_T95 d ((i : Int) - 1)).f0 = s.f0 then (if s.f0 = 0 then (attr_Same.f k (rd_T95 d ((i : Int) - 1)).f2 s.f2).bind fun t => (if t = true then some 5 else if (rd_T95 d ((i : Int) - 1)).f0 = 2 then (if s.f0 = 1 then some 5 else delta_Check.j1 k d b a d (d.length : Int) (i : Int) s.f0 s.f1 s.f2 s.f3) else delta_Check.j1 k d b a d (d.length : Int) (i : Int) s.f0 s.f1 s.f2 s.f3) else some 5)
     else (if (rd_T95 d ((i : Int) - 1)).f0 = 2 then (if s.f0 = 1 then some 5 else delta_Check.j1 k d b a d (d.length : Int) (i : Int) s.f0 s.f1 s.f2 s.f3) else delta_Check.j1 k d b a d (d.length : Int) (i : Int) s.f0 s.f1 s.f2 s.f3))
    else delta_Check.j1 k d b a d (d.length : Int) (i : Int) s.f0 s.f1 s.f2 s.f3) else some t := fun k => by
   simp only [delta_Check.l0]
   rw [if_pos (by omega), if_pos (by omega), if_pos (by omega), ← hsd]
   by_cases h0 : (i : Int) > 0
   ·rw [wrap_dn (by omega) (by omega), if_pos (show (0 : Int) ≤ (i : Int) - 1 by omega), if_pos (show (i : Int) - 1 < (d.length : Int) by omega)]
   ·simp only [if_neg h0]
  have bad : ∀ (c : Int), c ≠ 0 → Ev (fun k => delta_Check.l0 k d b a d (d.length : Int) (i : Int)) c → ¬ (StepOK s ∧ (∀ q, prev d i = some q → Adj q s) ∧ RestOK (some s) (d.drop (i + 1)) (b + oldS s) (a + newS s)) →
    ∃ r : Int, Ev (fun k => delta_Check.l0 k d b a d (d.length : Int) (i : Int)) r ∧ (r = 0 ↔ (StepOK s ∧ (∀ q, prev d i = some q → Adj q s) ∧ RestOK (some s) (d.drop (i + 1)) (b + oldS s) (a + newS s))) := fun c hc he hn => ⟨c, he, ⟨fun h => absurd h hc, fun h => absurd h hn⟩⟩
  by_cases hz : r0 = 0
  rotate_left
  ·exact bad r0 hz (Ev.step e0 (Ev.bind hr0 (Ev.congr (fun k => by rw [if_neg hz]) (Ev.now r0)))) (fun h => hz (hri0.2 h.1))
  have hok := hri0.1 hz
  subst hz
  obtain ⟨r, hr, hri⟩ := j1 hok
  by_cases hi0 : i = 0
  ·subst hi0
   exact ⟨r, Ev.step e0 (Ev.bind hr0 (Ev.congr (fun k => by rw [if_pos rfl, if_neg (by omega)]) hr)), hri.trans ⟨fun h => ⟨hok, (fun q hq => by cases hq), h⟩, fun h => h.2.2⟩⟩
  have hap := adj_prev (d := d) (i := i) (by omega) True
  rw [← hsd] at hap
  rw [hap] at bad ⊢
  obtain ⟨p, hp⟩ : ∃ p, p = rd_T95 d ((i : Int) - 1) := ⟨_, rfl⟩
  rw [← hp] at hap bad e0 ⊢
  have hpsm : SSm p := by
   have := hs.2 _ (rd95_mem (l := d) (i := i - 1) (by omega))
   rw [show ((i - 1 : Nat) : Int) = (i : Int) - 1 by omega, ← hp] at this
   exact this
  have good : Adj p s → (∀ k, delta_Check.l0 (k + 1) d b a d (d.length : Int) (i : Int) = (delta_step.f k s.f0 s.f1 s.f2 s.f3).bind fun t => if t = 0 then delta_Check.j1 k d b a d (d.length : Int) (i : Int) s.f0 s.f1 s.f2 s.f3 else some t) → ∃ r : Int, Ev (fun k => delta_Check.l0 k d b a d (d.length : Int) (i : Int)) r ∧ (r = 0 ↔ (StepOK s ∧ Adj p s ∧ RestOK (some s) (d.drop (i + 1)) (b + oldS s) (a + newS s))) :=
   fun h1 h2 => ⟨r, Ev.step h2 (Ev.bind hr0 (Ev.congr (fun k => by rw [if_pos rfl]) hr)), hri.trans ⟨fun h => ⟨hok, h1, h⟩, fun h => h.2.2⟩⟩
  have hpos : (i : Int) > 0 := by omega
  by_cases hk : p.f0 = s.f0
  ·by_cases h0 : s.f0 = 0
   ·obtain ⟨c, hc, hci⟩ := asame_ev p.f2 s.f2 hpsm.1.1
    cases c with
    | true =>
     refine bad 5 (by decide) (Ev.step e0 (Ev.bind hr0 (Ev.congr (fun k => by rw [if_pos rfl, if_pos hpos, if_pos hk, if_pos h0]) (Ev.bind hc (Ev.congr (fun k => by rw [if_pos rfl]) (Ev.now 5)))))) (fun h => h.2.1.1 ⟨hk, .inr (hci.1 rfl)⟩)
    | false =>
     have hne : p.f2 ≠ s.f2 := fun h => by have := hci.2 h; cases this
     refine ⟨r, Ev.step e0 (Ev.bind hr0 (Ev.congr (fun k => by rw [if_pos rfl, if_pos hpos, if_pos hk, if_pos h0]) (Ev.bind hc (Ev.congr (fun k => by rw [if_neg (by decide), if_neg (by omega)]) hr)))), hri.trans ⟨fun h => ⟨hok, ⟨fun h => ?_, fun h => by omega⟩, h⟩, fun h => h.2.2⟩⟩
     rcases h.2 with h | h
     ·exact h h0
     ·exact hne h
   ·refine bad 5 (by decide) (Ev.step e0 (Ev.bind hr0 (Ev.congr (fun k => by rw [if_pos rfl, if_pos hpos, if_pos hk, if_neg h0]) (Ev.now 5)))) (fun h => h.2.1.1 ⟨hk, .inl h0⟩)
  ·by_cases hc2 : p.f0 = 2 ∧ s.f0 = 1
   ·refine bad 5 (by decide) (Ev.step e0 (Ev.bind hr0 (Ev.congr (fun k => by rw [if_pos rfl, if_pos hpos, if_neg hk, if_pos hc2.1, if_pos hc2.2]) (Ev.now 5)))) (fun h => h.2.1.2 hc2)
   ·refine good ⟨fun h => hk h.1, hc2⟩ (fun k => ?_)
    rw [e0]
    congr 1
    funext t
    by_cases ht : t = 0
    ·rw [if_pos ht, if_pos ht, if_pos hpos, if_neg hk]
     by_cases h2 : p.f0 = 2
     ·rw [if_pos h2, if_neg (fun h => hc2 ⟨h2, h⟩)]
     ·rw [if_neg h2]
    ·rw [if_neg ht, if_neg ht]
theorem dok_rest (d : List S95) : RestOK none d 0 0 ↔ DOK d := ⟨fun h => ⟨h.1, h.2.1, by have := h.2.2.1; omega, by have := h.2.2.2; omega⟩, fun h => ⟨h.ok, h.ord, by have := h.old; omega, by have := h.new; omega⟩⟩
theorem check_ev (d : List S95) (hs : DSm d) : ∃ r : Int, Ev (fun k => delta_Check.f k d) r ∧ (r = 0 ↔ DOK d) := by
 obtain ⟨r, hr, hri⟩ := check_l0 d hs d.length 0 0 0 (by omega) (by omega) (by omega) (by omega) (by omega)
 exact ⟨r, hr, hri.trans (dok_rest d)⟩
theorem lengths_l0 (d : List S95) (hs : DSm d) (hok : ∀ s ∈ d, StepOK s) (n : Nat) : ∀ (i : Nat) (b a : Int), i + n = d.length → 0 ≤ b → 0 ≤ a → b + old (d.drop i) ≤ 2147483647 → a + new (d.drop i) ≤ 2147483647 →
  Ev (fun k => delta_lengths.l0 k b a d (d.length : Int) (i : Int)) (b + old (d.drop i), a + new (d.drop i)) := by
 have hs1 := hs.1
 induction n with
 | zero =>
  intro i b a hi hb0 ha0 hb ha
  rw [List.drop_eq_nil_of_le (by omega), old, new, Int.add_zero, Int.add_zero]
  refine Ev.step (f := fun _ => some (b, a)) (fun k => ?_) (Ev.now _)
  simp only [delta_lengths.l0]
  rw [if_neg (by omega)]
 | succ n ih =>
  intro i b a hi hb0 ha0 hb ha
  have hlt : i < d.length := by omega
  have hsm := hs.2 _ (rd95_mem hlt)
  have hk := hok _ (rd95_mem hlt)
  rw [drop_T95 d i hlt, old, new] at *
  obtain ⟨s, hsd⟩ : ∃ s, s = rd_T95 d (i : Int) := ⟨_, rfl⟩
  rw [← hsd] at hsm hk hb ha ⊢
  have h1 := oldS_nn hk
  have h2 := newS_nn hk hsm
  have h3 := old_nn (d := d.drop (i + 1)) (fun x hx => hok x (List.mem_of_mem_drop hx))
  have h4 := new_nn (d := d.drop (i + 1)) (fun x hx => hok x (List.mem_of_mem_drop hx)) (fun x hx => hs.2 x (List.mem_of_mem_drop hx))
  have := ih (i + 1) (b + oldS s) (a + newS s) (by omega) (by omega) (by omega) (by omega) (by omega)
  rw [Int.add_assoc, Int.add_assoc] at this
  refine Ev.step (fun k => ?_) this
  simp only [delta_lengths.l0]
  rw [if_pos (by omega), if_pos (by omega), if_pos (by omega), ← hsd, size_is]
  simp only [Option.bind_some]
  have hl : s.f0 = 1 → oldS s = 0 := fun h => if_pos h
  have hl2 : s.f0 ≠ 1 → oldS s = s.f1 := fun h => if_neg h
  have hn2 : s.f0 = 2 → newS s = 0 := fun h => if_pos h
  have hn1 : s.f0 ≠ 2 → s.f0 = 1 → newS s = (s.f3.length : Int) := fun h h' => by unfold newS; rw [if_neg h, if_pos h']
  have hn0 : s.f0 ≠ 2 → s.f0 ≠ 1 → newS s = s.f1 := fun h h' => by unfold newS; rw [if_neg h, if_neg h']
  have wi : wrap64 ((i : Int) + 1) = ((i + 1 : Nat) : Int) := by rw [wrap_up (by omega) (by omega)]; rfl
  rw [wi]
  by_cases g1 : s.f0 = 1
  ·have g2 : ¬ s.f0 = 2 := by omega
   rw [if_pos g1, if_neg g2, if_pos g1, ← hn1 g2 g1, w64 (by omega) (by omega), hl g1, Int.add_zero]
  ·by_cases g2 : s.f0 = 2
   ·rw [if_neg g1, if_pos g2, ← hl2 g1, w64 (by omega) (by omega), hn2 g2, Int.add_zero]
   ·rw [if_neg g1, if_neg g2, if_neg g1, w64 (i := b + s.f1) (by rw [← hl2 g1]; omega) (by rw [← hl2 g1]; omega), w64 (i := a + s.f1) (by rw [← hl2 g1]; omega) (by rw [← hn0 g2 g1]; omega), ← hn0 g2 g1, hl2 g1, hn0 g2 g1]
theorem lengths_ev (d : List S95) (hs : DSm d) (h : DOK d) : Ev (fun k => delta_lengths.f k d) (old d, new d) := by
 have := lengths_l0 d hs h.ok d.length 0 0 0 (by omega) (by omega) (by omega) (by have := h.old; simpa using this) (by have := h.new; simpa using this)
 exact Ev.congr (f := fun k => delta_lengths.l0 k 0 0 d (d.length : Int) 0) (fun k => rfl) (by simpa using this)
inductive Un where
 | keep (t : List S91)
 | cut
 | add (x : S26)
def us (s : S95) : List Un := if s.f0 = 0 then List.replicate s.f1.toNat (.keep s.f2) else if s.f0 = 1 then s.f3.map .add else List.replicate s.f1.toNat .cut
def units (d : List S95) : List Un := d.flatMap us
def app (t : List S91) (x : S26) : S26 := ⟨x.f0, x.f1, mrg rawE x.f2 t⟩
def run : List S26 → List Un → List S26 × List S26
 | f, [] => ([], f)
 | f, .add x :: u => (x :: (run f u).1, (run f u).2)
 | [], .keep _ :: u => run [] u
 | x :: f, .keep t :: u => (app t x :: (run f u).1, (run f u).2)
 | [], .cut :: u => run [] u
 | _ :: f, .cut :: u => run f u
theorem units_nil : units [] = [] := rfl
theorem units_cons (s : S95) (d : List S95) : units (s :: d) = us s ++ units d := rfl
theorem units_app (a b : List S95) : units (a ++ b) = units a ++ units b := by simp [units]
theorem run_app (a b : List Un) : ∀ f : List S26, run f (a ++ b) = ((run f a).1 ++ (run (run f a).2 b).1, (run (run f a).2 b).2) := by
 induction a with
 | nil => intro f; rfl
 | cons x a ih =>
  intro f
  cases x with
  | add x => simp only [List.cons_append, run, ih]
  | keep t => cases f <;> simp only [List.cons_append, run, ih]
  | cut => cases f <;> simp only [List.cons_append, run, ih]
theorem run_keeps (t : List S91) : ∀ (n : Nat) (f : List S26), n ≤ f.length → run f (List.replicate n (.keep t)) = ((f.take n).map (app t), f.drop n)
 | 0, f, _ => by simp [run]
 | n + 1, [], h => by simp at h
 | n + 1, x :: f, h => by rw [List.replicate_succ, run, run_keeps t n f (by simpa using h)]; simp
theorem run_cuts : ∀ (n : Nat) (f : List S26), n ≤ f.length → run f (List.replicate n .cut) = ([], f.drop n)
 | 0, f, _ => by simp [run]
 | n + 1, [], h => by simp at h
 | n + 1, x :: f, h => by rw [List.replicate_succ, run, run_cuts n f (by simpa using h)]; simp
theorem run_adds : ∀ (l f : List S26), run f (l.map .add) = (l, f)
 | [], f => rfl
 | x :: l, f => by rw [List.map_cons, run, run_adds l f]
def LB (n : Nat) (f : List S26) : Prop := f.length ≤ n ∧ ∀ x ∈ f, x.f2.length ≤ n
theorem pok_mem {f : List S26} : POK f ↔ ∀ x ∈ f, ElemOK x := by
 constructor
 ·intro h x hx
  obtain ⟨i, h0, h1, rfl⟩ := memf_rd hx
  exact h i h0 h1
 ·intro h j h0 h1
  exact h _ (rdf_mem h0 h1)
theorem va_small {ch : Bool} {l : List S91} (h : VA ch l) (hl : l.length ≤ 1099511627776) : Small l := by
 refine ⟨hl, fun x hx => ?_⟩
 obtain ⟨h1, h2⟩ := h.1 x hx
 have := h1.2.1
 refine ⟨by omega, ?_⟩
 rcases h2 with h2 | ⟨_, h2⟩
 ·have := h2.2.1; omega
 ·omega
theorem fsmall {n : Nat} {f : List S26} (h : POK f) (hl : LB n f) (hn : n ≤ 1073741824) : FSmall f := by
 refine ⟨Nat.le_trans hl.1 hn, fun x hx => ?_⟩
 have h1 := hl.2 x hx
 exact ⟨va_small (pok_mem.1 h x hx).2 (by omega), by omega⟩
def DB (n : Nat) (d : List S95) : Prop := d.length ≤ n ∧ ∀ s ∈ d, s.f2.length ≤ n ∧ LB n s.f3
theorem stepok_small {n : Nat} {s : S95} (h : StepOK s) (h1 : s.f2.length ≤ n) (h2 : LB n s.f3) (hn : n ≤ 1073741824) : SSm s := by
 rcases h with h | h | h
 ·exact ⟨va_small h.2.2.2.2 (by omega), by rw [h.2.2.2.1]; exact ⟨Nat.zero_le _, fun x hx => by cases hx⟩⟩
 ·exact ⟨by rw [h.2.2.1]; exact ⟨Nat.zero_le _, fun x hx => by cases hx⟩, fsmall h.2.2.2.2 h2 hn⟩
 ·exact ⟨by rw [h.2.2.2.2]; exact ⟨Nat.zero_le _, fun x hx => by cases hx⟩, by rw [h.2.2.2.1]; exact ⟨Nat.zero_le _, fun x hx => by cases hx⟩⟩
theorem dsm {n : Nat} {d : List S95} (h : ∀ s ∈ d, StepOK s) (hd : DB n d) (hn : n ≤ 1073741824) : DSm d :=
 ⟨Nat.le_trans hd.1 hn, fun s hs => stepok_small (h s hs) (hd.2 s hs).1 (hd.2 s hs).2 hn⟩
theorem changed_l0 (t : List S91) (l : List S26) (ht : t.length ≤ 1073741824) (hl : l.length ≤ 1073741824) (hx : ∀ x ∈ l, x.f2.length ≤ 1073741824) (n : Nat) : ∀ i : Nat, i + n = l.length →
  Ev (fun k => delta_changed.l0 k t ((l.take i).map (app t) ++ List.replicate (l.length - i) z26) l (l.length : Int) (i : Int)) (l.map (app t)) := by
 induction n with
 | zero =>
  intro i hi
  refine Ev.step (f := fun _ => some (l.map (app t))) (fun k => ?_) (Ev.now _)
  simp only [delta_changed.l0]
  rw [if_neg (by omega), show i = l.length by omega]
  simp
 | succ n ih =>
  intro i hi
  have hlt : i < l.length := by omega
  refine Ev.step (fun k => ?_) (ih (i + 1) (by omega))
  have hlen : ((l.take i).map (app t) ++ List.replicate (l.length - i) z26).length = l.length := by simp; omega
  have hxe : rd_T26 l (i : Int) = l[i]'hlt := by simp [rd_T26, List.getD_eq_getElem?_getD, List.getElem?_eq_getElem hlt]
  have h2 := hx _ (rdf_mem (l := l) (i := (i : Int)) (by omega) (by omega))
  simp only [delta_changed.l0]
  rw [if_pos (by omega), if_pos (by omega), if_pos (by omega), raw_f h2 ht, Option.bind_some, if_pos (by rw [hlen]; omega), wrap_up (by omega) (by omega), show ((i : Int) + 1) = ((i + 1 : Nat) : Int) from by omega]
  have hset : ((l.take i).map (app t) ++ List.replicate (l.length - i) z26).set (i : Int).toNat (⟨(rd_T26 l (i : Int)).f0, (rd_T26 l (i : Int)).f1, mrg rawE (rd_T26 l (i : Int)).f2 t⟩ : S26) = (l.take (i + 1)).map (app t) ++ List.replicate (l.length - (i + 1)) z26 := by
   rw [Int.toNat_natCast]
   have hn : l.length - i = (l.length - (i + 1)) + 1 := by omega
   rw [hn, List.replicate_succ, List.set_append_right _ _ (by simp; omega)]
   have e1 : i - ((l.take i).map (app t)).length = 0 := by simp; omega
   have ht : l.take (i + 1) = l.take i ++ [l[i]'hlt] := by
    rw [List.take_add_one, List.getElem?_eq_getElem hlt]
    rfl
   rw [e1, List.set_cons_zero, hxe, ht, List.map_append, List.append_assoc]
   rfl
  rw [hset]
theorem changed_ev (t : List S91) (l : List S26) (ht : t.length ≤ 1073741824) (hl : l.length ≤ 1073741824) (hx : ∀ x ∈ l, x.f2.length ≤ 1073741824) : Ev (fun k => delta_changed.f k l t) (l.map (app t)) := by
 refine Ev.congr (fun k => ?_) (changed_l0 t l ht hl hx l.length 0 (by omega))
 unfold delta_changed.f
 rw [if_pos (by omega), if_pos (by omega)]
 simp
theorem us_keep {s : S95} (h : s.f0 = 0) : us s = List.replicate s.f1.toNat (.keep s.f2) := if_pos h
theorem us_add {s : S95} (h : s.f0 = 1) : us s = s.f3.map .add := by unfold us; rw [if_neg (by omega), if_pos h]
theorem us_cut {s : S95} (h : s.f0 = 2) : us s = List.replicate s.f1.toNat .cut := by unfold us; rw [if_neg (by omega), if_neg (by omega)]
theorem raw_l0 (d : List S95) (hok : ∀ s ∈ d, StepOK s) (hd : DB 1073741824 d) (n : Nat) : ∀ (i : Nat) (f acc : List S26), i + n = d.length → LB 1073741824 f → old (d.drop i) ≤ (f.length : Int) → (acc.length : Int) + new (d.drop i) ≤ 1073741824 →
  Ev (fun k => delta_Raw.l0 k f acc d (d.length : Int) (i : Int)) (acc ++ (run f (units (d.drop i))).1) := by
 have hs := dsm hok hd (Nat.le_refl _)
 have hs1 := hs.1
 induction n with
 | zero =>
  intro i f acc hi hf ho ha
  rw [List.drop_eq_nil_of_le (by omega), units_nil, run, List.append_nil]
  refine Ev.step (f := fun _ => some acc) (fun k => ?_) (Ev.now _)
  simp only [delta_Raw.l0]
  rw [if_neg (by omega)]
 | succ n ih =>
  intro i f acc hi hf ho ha
  have hlt : i < d.length := by omega
  have hsm := hs.2 _ (rd95_mem hlt)
  have hk := hok _ (rd95_mem hlt)
  have hdb := hd.2 _ (rd95_mem hlt)
  rw [drop_T95 d i hlt, old] at ho
  rw [drop_T95 d i hlt, new] at ha
  rw [drop_T95 d i hlt, units_cons, run_app]
  obtain ⟨s, hsd⟩ : ∃ s, s = rd_T95 d (i : Int) := ⟨_, rfl⟩
  rw [← hsd] at hsm hk ho ha hdb ⊢
  have h3 := old_nn (d := d.drop (i + 1)) (fun x hx => hok x (List.mem_of_mem_drop hx))
  have h4 := new_nn (d := d.drop (i + 1)) (fun x hx => hok x (List.mem_of_mem_drop hx)) (fun x hx => hs.2 x (List.mem_of_mem_drop hx))
  have hfl := hf.1
  have e : ∀ k, delta_Raw.l0 (k + 1) f acc d (d.length : Int) (i : Int) = if s.f0 = 0 then (if 0 ≤ s.f1 then (if s.f1 ≤ (f.length : Int) then ((delta_changed.f k (f.take s.f1.toNat) s.f2).bind fun t => if acc.length + t.length < 3518437208883 then delta_Raw.l0 k (f.drop s.f1.toNat) (acc ++ t) d (d.length : Int) ((i + 1 : Nat) : Int) else none) else none) else none)
    else (if s.f0 = 1 then ((flow_Copy.f k s.f3).bind fun t => if acc.length + t.length < 3518437208883 then delta_Raw.l0 k f (acc ++ t) d (d.length : Int) ((i + 1 : Nat) : Int) else none) else (if 0 ≤ s.f1 then (if s.f1 ≤ (f.length : Int) then delta_Raw.l0 k (f.drop s.f1.toNat) acc d (d.length : Int) ((i + 1 : Nat) : Int) else none) else none)) := fun k => by
   simp only [delta_Raw.l0]
   rw [if_pos (by omega), if_pos (by omega), if_pos (by omega), ← hsd, wrap_up (by omega) (by omega)]
   rfl
  rcases hk with hk | hk | hk
  ·have eo : oldS s = s.f1 := if_neg (by omega)
   have en : newS s = s.f1 := by unfold newS; rw [if_neg (by omega), if_neg (by omega)]
   rw [us_keep hk.1, run_keeps _ _ _ (by omega)]
   have hc := changed_ev s.f2 (f.take s.f1.toNat) (by have := hdb.1; omega) (by rw [List.length_take]; omega) (fun x hx => by have := hf.2 x (List.mem_of_mem_take hx); omega)
   have hl : ((f.take s.f1.toNat).map (app s.f2)).length = s.f1.toNat := by rw [List.length_map, List.length_take]; omega
   have := ih (i + 1) (f.drop s.f1.toNat) (acc ++ (f.take s.f1.toNat).map (app s.f2)) (by omega) ⟨by rw [List.length_drop]; omega, fun x hx => hf.2 x (List.mem_of_mem_drop hx)⟩ (by rw [List.length_drop]; omega) (by rw [List.length_append, hl]; omega)
   rw [List.append_assoc] at this
   exact Ev.step (fun k => by rw [e, if_pos hk.1, if_pos (by omega), if_pos (by omega)]) (Ev.bind hc (Ev.congr (fun k => by rw [if_pos (by rw [hl]; omega)]) this))
  ·have eo : oldS s = 0 := if_pos hk.1
   have en : newS s = (s.f3.length : Int) := by unfold newS; rw [if_neg (by omega), if_pos hk.1]
   rw [us_add hk.1, run_adds]
   have := ih (i + 1) f (acc ++ s.f3) (by omega) hf (by omega) (by rw [List.length_append]; omega)
   rw [List.append_assoc] at this
   exact Ev.step (fun k => by rw [e, if_neg (by omega), if_pos hk.1]) (Ev.bind (copy_ev s.f3 hsm.2) (Ev.congr (fun k => by rw [if_pos (by have := hsm.2.1; omega)]) this))
  ·have eo : oldS s = s.f1 := if_neg (by omega)
   have en : newS s = 0 := if_pos hk.1
   rw [us_cut hk.1, run_cuts _ _ (by omega)]
   have := ih (i + 1) (f.drop s.f1.toNat) acc (by omega) ⟨by rw [List.length_drop]; omega, fun x hx => hf.2 x (List.mem_of_mem_drop hx)⟩ (by rw [List.length_drop]; omega) (by omega)
   exact Ev.step (fun k => by rw [e, if_neg (by omega), if_neg (by omega), if_pos (by omega), if_pos (by omega)]) this
theorem raw_ev (d : List S95) (f : List S26) (hok : ∀ s ∈ d, StepOK s) (hd : DB 1073741824 d) (hf : LB 1073741824 f) (ho : old d ≤ (f.length : Int)) (hn : new d ≤ 1073741824) : Ev (fun k => delta_Raw.f k f d) (run f (units d)).1 := by
 have := raw_l0 d hok hd d.length 0 f [] (by omega) hf (by simpa using ho) (by simpa using hn)
 exact Ev.congr (f := fun k => delta_Raw.l0 k f [] d (d.length : Int) 0) (fun k => rfl) (by simpa using this)
theorem fits_ev (f : List S26) (d : List S95) (hf : POK f) (hl : LB 1073741824 f) (h : DOK d) (hd : DB 1073741824 d) (ho : old d = (f.length : Int)) : Ev (fun k => delta_fits.f k f d) 0 := by
 have hs := dsm h.ok hd (Nat.le_refl _)
 obtain ⟨p, hp, hpi⟩ := part_ev f (fsmall hf hl (Nat.le_refl _))
 obtain rfl := hpi.2 hf
 obtain ⟨c, hc, hci⟩ := check_ev d hs
 obtain rfl := hci.2 h
 refine Ev.congr (fun k => by unfold delta_fits.f; rfl) (Ev.bind hp (Ev.congr (fun k => by rw [if_pos rfl]) (Ev.bind hc (Ev.congr (fun k => by rw [if_pos rfl]) (Ev.bind (lengths_ev d hs h) (Ev.congr (fun k => by rw [if_pos ho]) (Ev.now 0)))))))
theorem apply_ev (f : List S26) (d : List S95) (hf : POK f) (hl : LB 1073741824 f) (h : DOK d) (hd : DB 1073741824 d) (ho : old d = (f.length : Int)) (hn : new d ≤ 1073741824) : Ev (fun k => delta_Apply.f k f d) ((run f (units d)).1, 0) :=
 Ev.congr (fun k => by unfold delta_Apply.f; rfl) (Ev.bind (fits_ev f d hf hl h hd ho) (Ev.congr (fun k => by rw [if_pos rfl]) (Ev.bind (raw_ev d f h.ok hd hl (by omega) hn) (Ev.now _))))
def nold : List Un → Nat
 | [] => 0
 | .add _ :: u => nold u
 | .keep _ :: u => nold u + 1
 | .cut :: u => nold u + 1
def nnew : List Un → Nat
 | [] => 0
 | .cut :: u => nnew u
 | .keep _ :: u => nnew u + 1
 | .add _ :: u => nnew u + 1
theorem nold_app : ∀ a b : List Un, nold (a ++ b) = nold a + nold b
 | [], b => by simp [nold]
 | .add x :: a, b => by simp only [List.cons_append, nold, nold_app a b]
 | .keep t :: a, b => by simp only [List.cons_append, nold, nold_app a b]; omega
 | .cut :: a, b => by simp only [List.cons_append, nold, nold_app a b]; omega
theorem nnew_app : ∀ a b : List Un, nnew (a ++ b) = nnew a + nnew b
 | [], b => by simp [nnew]
 | .add x :: a, b => by simp only [List.cons_append, nnew, nnew_app a b]; omega
 | .keep t :: a, b => by simp only [List.cons_append, nnew, nnew_app a b]; omega
 | .cut :: a, b => by simp only [List.cons_append, nnew, nnew_app a b]
theorem nold_keeps (t : List S91) : ∀ n, nold (List.replicate n (.keep t)) = n
 | 0 => rfl
 | n + 1 => by rw [List.replicate_succ, nold, nold_keeps t n]
theorem nnew_keeps (t : List S91) : ∀ n, nnew (List.replicate n (.keep t)) = n
 | 0 => rfl
 | n + 1 => by rw [List.replicate_succ, nnew, nnew_keeps t n]
theorem nold_cuts : ∀ n, nold (List.replicate n .cut) = n
 | 0 => rfl
 | n + 1 => by rw [List.replicate_succ, nold, nold_cuts n]
theorem nnew_cuts : ∀ n, nnew (List.replicate n .cut) = 0
 | 0 => rfl
 | n + 1 => by rw [List.replicate_succ, nnew, nnew_cuts n]
theorem nold_adds : ∀ l : List S26, nold (l.map .add) = 0
 | [] => rfl
 | x :: l => by rw [List.map_cons, nold, nold_adds l]
theorem nnew_adds : ∀ l : List S26, nnew (l.map .add) = l.length
 | [] => rfl
 | x :: l => by rw [List.map_cons, nnew, nnew_adds l, List.length_cons]
theorem nold_le : ∀ u : List Un, nold u ≤ u.length
 | [] => Nat.le_refl _
 | .add x :: u => by have := nold_le u; simp only [nold, List.length_cons]; omega
 | .keep t :: u => by have := nold_le u; simp only [nold, List.length_cons]; omega
 | .cut :: u => by have := nold_le u; simp only [nold, List.length_cons]; omega
theorem nnew_le : ∀ u : List Un, nnew u ≤ u.length
 | [] => Nat.le_refl _
 | .add x :: u => by have := nnew_le u; simp only [nnew, List.length_cons]; omega
 | .keep t :: u => by have := nnew_le u; simp only [nnew, List.length_cons]; omega
 | .cut :: u => by have := nnew_le u; simp only [nnew, List.length_cons]; omega
theorem run_cuts' : ∀ (n : Nat) (f : List S26), run f (List.replicate n .cut) = ([], f.drop n)
 | 0, f => by simp [run]
 | n + 1, [] => by rw [List.replicate_succ, run, run_cuts' n []]; simp
 | n + 1, x :: f => by rw [List.replicate_succ, run, run_cuts' n f]; simp
def costU : List Un → Nat
 | [] => 0
 | .keep [] :: u => costU u
 | .keep (_ :: _) :: u => costU u + 1
 | .cut :: u => costU u + 1
 | .add _ :: u => costU u + 1
theorem costU_app : ∀ a b : List Un, costU (a ++ b) = costU a + costU b
 | [], b => by simp [costU]
 | .keep [] :: u, b => by rw [List.cons_append, costU, costU, costU_app u b]
 | .keep (_ :: _) :: u, b => by rw [List.cons_append, costU, costU, costU_app u b]; omega
 | .cut :: u, b => by rw [List.cons_append, costU, costU, costU_app u b]; omega
 | .add _ :: u, b => by rw [List.cons_append, costU, costU, costU_app u b]; omega
structure E (a b : List Un) : Prop where
 run : ∀ f, run f a = run f b
 old : nold a = nold b
 new : nnew a = nnew b
 len : a.length = b.length
 cost : costU a = costU b
theorem E.refl (a : List Un) : E a a := ⟨fun _ => rfl, rfl, rfl, rfl, rfl⟩
theorem E.symm {a b : List Un} (h : E a b) : E b a := ⟨fun f => (h.run f).symm, h.old.symm, h.new.symm, h.len.symm, h.cost.symm⟩
theorem E.trans {a b c : List Un} (h : E a b) (k : E b c) : E a c := ⟨fun f => (h.run f).trans (k.run f), h.old.trans k.old, h.new.trans k.new, h.len.trans k.len, h.cost.trans k.cost⟩
theorem E.app {a b c d : List Un} (h : E a b) (k : E c d) : E (a ++ c) (b ++ d) := ⟨fun f => by rw [run_app, run_app, h.run, k.run], by rw [nold_app, nold_app, h.old, k.old], by rw [nnew_app, nnew_app, h.new, k.new], by rw [List.length_append, List.length_append, h.len, k.len], by rw [costU_app, costU_app, h.cost, k.cost]⟩
theorem E.swap (n : Nat) (l : List S26) : E (List.replicate n .cut ++ l.map .add) (l.map .add ++ List.replicate n .cut) :=
 ⟨fun f => by rw [run_app, run_app, run_cuts', run_adds, run_adds, run_cuts']; simp, by rw [nold_app, nold_app]; omega, by rw [nnew_app, nnew_app]; omega, by rw [List.length_append, List.length_append]; omega, by rw [costU_app, costU_app]; omega⟩
theorem us_len {s : S95} (h : StepOK s) : 1 ≤ (us s).length ∧ s.f1.toNat ≤ (us s).length ∧ s.f3.length ≤ (us s).length := by
 rcases h with h | h | h
 ·rw [us_keep h.1, List.length_replicate, h.2.2.2.1]; simp; omega
 ·rw [us_add h.1, List.length_map]
  have := List.length_pos_iff.2 h.2.2.2.1
  omega
 ·rw [us_cut h.1, List.length_replicate, h.2.2.2.1]; simp; omega
theorem oldS_us {s : S95} (h : StepOK s) : oldS s = (nold (us s) : Int) := by
 rcases h with h | h | h
 ·rw [us_keep h.1, nold_keeps]; unfold oldS; rw [if_neg (by omega)]; omega
 ·rw [us_add h.1, nold_adds]; unfold oldS; rw [if_pos h.1]; rfl
 ·rw [us_cut h.1, nold_cuts]; unfold oldS; rw [if_neg (by omega)]; omega
theorem newS_us {s : S95} (h : StepOK s) : newS s = (nnew (us s) : Int) := by
 rcases h with h | h | h
 ·rw [us_keep h.1, nnew_keeps]; unfold newS; rw [if_neg (by omega), if_neg (by omega)]; omega
 ·rw [us_add h.1, nnew_adds]; unfold newS; rw [if_neg (by omega), if_pos h.1]
 ·rw [us_cut h.1, nnew_cuts]; unfold newS; rw [if_pos h.1]; rfl
theorem old_units : ∀ {d : List S95}, (∀ s ∈ d, StepOK s) → old d = (nold (units d) : Int)
 | [], _ => rfl
 | s :: d, h => by
  rw [old, units_cons, nold_app, oldS_us (h s List.mem_cons_self), old_units (fun x hx => h x (List.mem_cons_of_mem _ hx))]
  omega
theorem new_units : ∀ {d : List S95}, (∀ s ∈ d, StepOK s) → new d = (nnew (units d) : Int)
 | [], _ => rfl
 | s :: d, h => by
  rw [new, units_cons, nnew_app, newS_us (h s List.mem_cons_self), new_units (fun x hx => h x (List.mem_cons_of_mem _ hx))]
  omega
theorem units_len : ∀ {d : List S95}, (∀ s ∈ d, StepOK s) → d.length ≤ (units d).length
 | [], _ => Nat.le_refl _
 | s :: d, h => by
  have h1 := us_len (h s List.mem_cons_self)
  have h2 := units_len (d := d) (fun x hx => h x (List.mem_cons_of_mem _ hx))
  rw [units_cons, List.length_append, List.length_cons]
  omega
theorem units_mem : ∀ {d : List S95}, (∀ s ∈ d, StepOK s) → ∀ s ∈ d, (us s).length ≤ (units d).length
 | [], _, s, hs => by cases hs
 | x :: d, h, s, hs => by
  rw [units_cons, List.length_append]
  rcases List.mem_cons.1 hs with rfl | hs
  ·omega
  ·have := units_mem (d := d) (fun x hx => h x (List.mem_cons_of_mem _ hx)) s hs
   omega
theorem ord_snoc (x : S95) : ∀ (l : List S95) (p : Option S95), ordOK p (l ++ [x]) ↔ ordOK p l ∧ ∀ q, (l.getLast?.or p) = some q → Adj q x
 | [], p => by simp [ordOK]
 | [y], p => by simp [ordOK]
 | y :: z :: l, p => by
  have : (z :: l).getLast?.or (some y) = (y :: z :: l).getLast?.or p := by simp [List.getLast?_cons_cons, List.getLast?_cons]
  show ((∀ q, p = some q → Adj q y) ∧ ordOK (some y) ((z :: l) ++ [x])) ↔ ((∀ q, p = some q → Adj q y) ∧ ordOK (some y) (z :: l)) ∧ _
  rw [ord_snoc x (z :: l) (some y), this, and_assoc]
def wu (s : WD) : List Un := units s.out ++ s.add.map .add ++ List.replicate s.cut.toNat .cut
def SAt (A : Nat) (s : S95) : Prop := s.f2.length ≤ A ∧ ∀ y ∈ s.f3, y.f2.length ≤ A
structure WF (A : Nat) (s : WD) : Prop where
 ok : ∀ x ∈ s.out, StepOK x
 ord : ordOK none s.out
 last : ∀ x, s.out.getLast? = some x → x.f0 = 0
 add : POK s.add
 cut : 0 ≤ s.cut
 att : ∀ x ∈ s.out, SAt A x
 atta : ∀ y ∈ s.add, y.f2.length ≤ A
theorem WF.nil (A : Nat) : WF A ⟨[], [], 0⟩ := ⟨(fun x hx => by cases hx), trivial, (fun x hx => by cases hx), (fun j h0 h1 => by simp at h1; omega), Int.le_refl _, (fun x hx => by cases hx), (fun x hx => by cases hx)⟩
structure FO (A : Nat) (o : List S95) : Prop where
 ok : ∀ x ∈ o, StepOK x
 ord : ordOK none o
 att : ∀ x ∈ o, SAt A x
theorem FO.dok {A : Nat} {o : List S95} (h : FO A o) (hl : (units o).length ≤ 2147483647) : DOK o := by
 have h1 := nold_le (units o)
 have h2 := nnew_le (units o)
 exact ⟨h.ok, h.ord, by rw [old_units h.ok]; omega, by rw [new_units h.ok]; omega⟩
theorem FO.db {A n : Nat} {o : List S95} (h : FO A o) (hl : (units o).length ≤ n) (ha : A ≤ n) : DB n o := by
 refine ⟨Nat.le_trans (units_len h.ok) hl, fun s hs => ⟨Nat.le_trans (h.att s hs).1 ha, ?_, fun y hy => Nat.le_trans ((h.att s hs).2 y hy) ha⟩⟩
 have h1 := units_mem h.ok s hs
 have h2 := us_len (h.ok s hs)
 omega
theorem wu_len (s : WD) : (wu s).length = (units s.out).length + s.add.length + s.cut.toNat := by simp [wu]; omega
theorem flush_spec {A : Nat} {s : WD} (h : WF A s) (hl : (wu s).length ≤ 2147483647) : FO A (flushD s.out s.add s.cut) ∧ units (flushD s.out s.add s.cut) = wu s ∧ (s.add = [] → s.cut = 0 → flushD s.out s.add s.cut = s.out) ∧
  (flushD s.out s.add s.cut).length ≤ s.out.length + 2 := by
 rw [wu_len] at hl
 have hcut := h.cut
 have h1 : FO A (addD s.out s.add) ∧ units (addD s.out s.add) = units s.out ++ s.add.map .add ∧ (∀ q, (addD s.out s.add).getLast? = some q → q.f0 ≠ 2) := by
  by_cases ha : 0 < s.add.length
  ·have e : addD s.out s.add = s.out ++ [⟨1, 0, [], s.add⟩] := if_pos ha
   have hne : s.add ≠ [] := fun h => by rw [h] at ha; cases ha
   rw [e]
   refine ⟨⟨fun x hx => ?_, (ord_snoc _ _ _).2 ⟨h.ord, fun q hq => ?_⟩, fun x hx => ?_⟩, ?_, fun q hq => ?_⟩
   ·rcases List.mem_append.1 hx with hx | hx
    ·exact h.ok x hx
    ·rw [List.mem_singleton.1 hx]; exact .inr (.inl ⟨rfl, rfl, rfl, hne, h.add⟩)
   ·rw [Option.or_none] at hq
    have := h.last q hq
    exact ⟨fun h => by have := h.1; simp only at this; omega, fun h => by omega⟩
   ·rcases List.mem_append.1 hx with hx | hx
    ·exact h.att x hx
    ·rw [List.mem_singleton.1 hx]; exact ⟨Nat.zero_le _, h.atta⟩
   ·rw [units_app, units_cons, units_nil, List.append_nil]; rfl
   ·rw [List.getLast?_append] at hq
    simp at hq
    rw [← hq]
    show (1 : Int) ≠ 2
    decide
  ·have e : addD s.out s.add = s.out := if_neg ha
   have hne : s.add = [] := List.eq_nil_of_length_eq_zero (by omega)
   rw [e]
   exact ⟨⟨h.ok, h.ord, h.att⟩, by rw [hne]; simp, fun q hq => by have := h.last q hq; omega⟩
 have hlen1 : (addD s.out s.add).length ≤ s.out.length + 1 := by unfold addD; split <;> simp
 refine ⟨?_, ?_, ?_, ?_⟩
 ·unfold flushD cutD
  split
  ·refine ⟨fun x hx => ?_, (ord_snoc _ _ _).2 ⟨h1.1.ord, fun q hq => ?_⟩, fun x hx => ?_⟩
   ·rcases List.mem_append.1 hx with hx | hx
    ·exact h1.1.ok x hx
    ·rw [List.mem_singleton.1 hx]; exact .inr (.inr ⟨rfl, by show 1 ≤ s.cut; omega, by show s.cut ≤ 2147483647; omega, rfl, rfl⟩)
   ·rw [Option.or_none] at hq
    have := h1.2.2 q hq
    exact ⟨fun h => by have := h.1; simp only at this; omega, fun h => by have := h.2; simp only at this; omega⟩
   ·rcases List.mem_append.1 hx with hx | hx
    ·exact h1.1.att x hx
    ·rw [List.mem_singleton.1 hx]; exact ⟨Nat.zero_le _, fun y hy => by cases hy⟩
  ·exact h1.1
 ·unfold flushD cutD wu
  split
  ·rw [units_app, h1.2.1, units_cons, units_nil, List.append_nil]; rfl
  ·rw [h1.2.1, show s.cut.toNat = 0 by omega]; simp
 ·intro ha hc
  unfold flushD cutD addD
  rw [ha, hc]
  rfl
 ·unfold flushD cutD
  split
  ·rw [List.length_append, List.length_singleton]; omega
  ·omega
theorem keepO_false (o : List S95) (n : Int) (t : List S91) : keepO o n t false = o ++ [⟨0, n, t, []⟩] := rfl
theorem last_split {o : List S95} (h : 0 < o.length) : ∃ o' x, o = o' ++ [x] ∧ rd_T95 o ((o.length : Int) - 1) = x := by
 refine ⟨o.dropLast, o.getLast (fun h' => by rw [h'] at h; cases h), (List.dropLast_concat_getLast _).symm, ?_⟩
 rw [show (o.length : Int) - 1 = ((o.length - 1 : Nat) : Int) by omega]
 simp only [rd_T95, Int.toNat_natCast, List.getD_eq_getElem?_getD, List.getElem?_eq_getElem (show o.length - 1 < o.length by omega), Option.getD_some, List.getLast_eq_getElem]
def Joins (o : List S95) (t : List S91) : Prop := ∃ o' x, o = o' ++ [x] ∧ rd_T95 o ((o.length : Int) - 1) = x ∧ x.f0 = 0 ∧ x.f2 = t
theorem keep_core {A : Nat} {s : WD} (n : Int) (t : List S91) (h : WF A s) (hv : VA true t) (ht : t.length ≤ A) (hA : A ≤ 1073741824) (h0 : 1 ≤ n) (hl : ((wu s).length : Int) + n ≤ 1073741824)
  (b : Bool) (hbi : b = true ↔ Joins (flushD s.out s.add s.cut) t) : WF A ⟨keepO (flushD s.out s.add s.cut) n t b, [], 0⟩ ∧ wu ⟨keepO (flushD s.out s.add s.cut) n t b, [], 0⟩ = wu s ++ List.replicate n.toNat (.keep t) := by
 obtain ⟨f1, f2, f3, f4⟩ := flush_spec h (by omega)
 have hol := units_len h.ok
 have hwl := wu_len s
 obtain ⟨o, ho⟩ : ∃ o, o = flushD s.out s.add s.cut := ⟨_, rfl⟩
 rw [← ho] at f1 f2 f3 f4 hbi ⊢
 have pnil : POK [] := fun j h0 h1 => by simp at h1; omega
 cases b with
 | true =>
  obtain ⟨o', x, e, ex, hk, hx⟩ := hbi.1 rfl
  have hxok := f1.ok x (by rw [e]; simp)
  have hxat := f1.att x (by rw [e]; simp)
  have hx' : 1 ≤ x.f1 ∧ x.f3 = [] := by rcases hxok with h | h | h <;> first | exact ⟨h.2.1, h.2.2.2.1⟩ | omega
  have hxl : x.f1.toNat ≤ (wu s).length := by
   have h1 := units_mem f1.ok x (by rw [e]; simp)
   have h2 := us_len hxok
   rw [f2] at h1
   omega
  have e2 : keepO o n t true = o' ++ [⟨0, x.f1 + n, t, []⟩] := by
   rw [keepO, ex, e, w64 (by omega) (by omega), hk, hx, hx'.2]
   rw [List.length_append, List.length_singleton, show o'.length + 1 - 1 = o'.length by omega, List.set_append_right _ _ (Nat.le_refl _)]
   simp
  have hord := f1.ord
  rw [e, ord_snoc] at hord
  have hst : StepOK ⟨0, x.f1 + n, t, []⟩ := .inl ⟨rfl, by show 1 ≤ x.f1 + n; omega, by show x.f1 + n ≤ 2147483647; omega, rfl, hv⟩
  refine ⟨⟨fun y hy => ?_, ?_, fun y hy => ?_, pnil, Int.le_refl _, fun y hy => ?_, fun y hy => by cases hy⟩, ?_⟩
  ·simp only [e2] at hy
   rcases List.mem_append.1 hy with hy | hy
   ·exact f1.ok y (by rw [e]; exact List.mem_append_left _ hy)
   ·rw [List.mem_singleton.1 hy]; exact hst
  ·simp only [e2]
   refine (ord_snoc _ _ _).2 ⟨hord.1, fun q hq => ?_⟩
   have := hord.2 q hq
   exact ⟨fun h => this.1 ⟨by have := h.1; simp only at this; omega, by rcases h.2 with h | h; exact absurd rfl h; exact .inr (by rw [hx]; exact h)⟩, fun h => by have := h.2; simp only at this; omega⟩
  ·simp only [e2] at hy
   rw [List.getLast?_append] at hy
   simp at hy
   rw [← hy]
  ·simp only [e2] at hy
   rcases List.mem_append.1 hy with hy | hy
   ·exact f1.att y (by rw [e]; exact List.mem_append_left _ hy)
   ·rw [List.mem_singleton.1 hy]; exact ⟨ht, fun z hz => by cases hz⟩
  ·rw [← f2, wu, e2, e, units_app, units_app, units_cons, units_cons, units_nil, us_keep hk, us_keep (s := ⟨0, x.f1 + n, t, []⟩) rfl, hx]
   simp only [List.map_nil, List.append_nil, Int.toNat_zero, List.replicate_zero, List.append_assoc]
   rw [List.replicate_append_replicate, show (x.f1 + n).toNat = x.f1.toNat + n.toNat by omega]
 | false =>
  have hst : StepOK ⟨0, n, t, []⟩ := .inl ⟨rfl, h0, by show n ≤ 2147483647; omega, rfl, hv⟩
  refine ⟨⟨fun y hy => ?_, ?_, fun y hy => ?_, pnil, Int.le_refl _, fun y hy => ?_, fun y hy => by cases hy⟩, ?_⟩
  ·simp only [keepO_false] at hy
   rcases List.mem_append.1 hy with hy | hy
   ·exact f1.ok y hy
   ·rw [List.mem_singleton.1 hy]; exact hst
  ·simp only [keepO_false]
   refine (ord_snoc _ _ _).2 ⟨f1.ord, fun q hq => ?_⟩
   rw [Option.or_none] at hq
   refine ⟨fun h => ?_, fun h => by have := h.2; simp only at this; omega⟩
   have hz : 0 < o.length := by
    cases o with
    | nil => cases hq
    | cons a l => simp
   obtain ⟨o', x, e, ex⟩ := last_split hz
   have : x = q := by rw [e, List.getLast?_append] at hq; simpa using hq
   subst this
   rcases h.2 with h' | h'
   ·exact h' rfl
   ·have := hbi.2 ⟨o', x, e, ex, h.1, h'⟩
    cases this
  ·simp only [keepO_false] at hy
   rw [List.getLast?_append] at hy
   simp at hy
   rw [← hy]
  ·simp only [keepO_false] at hy
   rcases List.mem_append.1 hy with hy | hy
   ·exact f1.att y hy
   ·rw [List.mem_singleton.1 hy]; exact ⟨ht, fun z hz => by cases hz⟩
  ·rw [← f2, wu, keepO_false, units_app, units_cons, units_nil, us_keep (s := ⟨0, n, t, []⟩) rfl]
   simp
theorem dofB_ev {A : Nat} {o : List S95} (t : List S91) (h : FO A o) (hA : A ≤ 1073741824) : ∃ b, Ev (fun k => dofB k o t) b ∧ (b = true ↔ Joins o t) := by
 by_cases hz : 0 < o.length
 ·obtain ⟨o', x, e, ex⟩ := last_split hz
  by_cases hk : x.f0 = 0
  ·obtain ⟨b, hb, hbi⟩ := rsame_ev x.f2 t (by have := (h.att x (by rw [e]; simp)).1; omega)
   refine ⟨b, Ev.congr (fun k => by unfold dofB; rw [if_pos hz, ex, if_pos hk]) hb, hbi.trans ⟨fun h => ⟨o', x, e, ex, hk, h⟩, fun ⟨o2, x2, e2, ex2, _, h⟩ => by rw [← ex, ex2]; exact h⟩⟩
  ·exact ⟨false, Ev.congr (fun k => by unfold dofB; rw [if_pos hz, ex, if_neg hk]) (Ev.now false), ⟨(fun h => by cases h), fun ⟨o2, x2, e2, ex2, h, _⟩ => absurd (by rw [← ex, ex2]; exact h) hk⟩⟩
 ·exact ⟨false, Ev.congr (fun k => by unfold dofB; rw [if_neg hz]) (Ev.now false), ⟨(fun h => by cases h), fun ⟨o2, x2, e2, _⟩ => absurd (by rw [e2]; simp) hz⟩⟩
theorem pok_app {a b : List S26} (ha : POK a) (hb : POK b) : POK (a ++ b) := pok_mem.2 (fun x hx => by rcases List.mem_append.1 hx with hx | hx; exact pok_mem.1 ha x hx; exact pok_mem.1 hb x hx)
theorem cut_spec {A : Nat} {s : WD} (n : Int) (h : WF A s) (h0 : 0 ≤ n) : WF A ⟨s.out, s.add, s.cut + n⟩ ∧ wu ⟨s.out, s.add, s.cut + n⟩ = wu s ++ List.replicate n.toNat .cut := by
 have := h.cut
 refine ⟨⟨h.ok, h.ord, h.last, h.add, by show 0 ≤ s.cut + n; omega, h.att, h.atta⟩, ?_⟩
 simp only [wu, List.append_assoc, List.replicate_append_replicate]
 rw [show (s.cut + n).toNat = s.cut.toNat + n.toNat by omega]
theorem run_len : ∀ (u : List Un) (f : List S26), nold u = f.length → (run f u).1.length = nnew u
 | [], f, h => by simp [run, nnew]
 | .add x :: u, f, h => by simp only [run, nnew, List.length_cons, run_len u f h]
 | .keep t :: u, [], h => by simp [nold] at h
 | .cut :: u, [], h => by simp [nold] at h
 | .keep t :: u, x :: f, h => by
  simp only [nold, List.length_cons, Nat.add_right_cancel_iff] at h
  simp only [run, nnew, List.length_cons, run_len u f h]
 | .cut :: u, x :: f, h => by
  simp only [nold, List.length_cons, Nat.add_right_cancel_iff] at h
  simp only [run, nnew, run_len u f h]
def actU : List (List S26) → List Bool → List (List S91) → List Un
 | a :: As, c :: Cs, t :: Ts => a.map .add ++ (if c = true then [.cut] else [.keep t]) ++ actU As Cs Ts
 | a :: _, [], _ => a.map .add
 | _, _, _ => []
theorem dof_spec {A : Nat} (hA : A ≤ 1073741824) : ∀ (As : List (List S26)) (Cs : List Bool) (Ts : List (List S91)) (s : WD), WF A s → As.length = Cs.length + 1 → Ts.length = Cs.length → (∀ a ∈ As, ∀ x ∈ a, ElemOK x ∧ x.f2.length ≤ A) → (∀ t ∈ Ts, VA true t ∧ t.length ≤ A) →
  (wu s).length + (actU As Cs Ts).length ≤ 1073741823 → ∃ o, Ev (fun k => dofL k As Cs Ts s.out s.add s.cut) o ∧ FO A o ∧ E (units o) (wu s ++ actU As Cs Ts)
 | [], Cs, Ts, s, h, h1, _, _, _, _ => by simp at h1
 | a :: As, [], Ts, s, h, h1, h2, ha, ht, hl => by
  have hol := units_len h.ok
  have hwl := wu_len s
  rw [actU, List.length_map] at hl
  have hsa : WF A ⟨s.out, s.add ++ a, s.cut⟩ := ⟨h.ok, h.ord, h.last, pok_app h.add (pok_mem.2 (fun x hx => (ha a List.mem_cons_self x hx).1)), h.cut, h.att, fun y hy => by rcases List.mem_append.1 hy with hy | hy; exact h.atta y hy; exact (ha a List.mem_cons_self y hy).2⟩
  have hE : E (wu ⟨s.out, s.add ++ a, s.cut⟩) (wu s ++ a.map .add) := by
   have := (E.refl (units s.out ++ s.add.map .add)).app (E.swap s.cut.toNat a).symm
   simpa [wu, List.append_assoc] using this
  obtain ⟨f1, f2, f3, f4⟩ := flush_spec hsa (by rw [hE.len, List.length_append, List.length_map]; omega)
  refine ⟨_, Ev.congr (fun k => by rw [dofL, if_neg (by omega)]) (Ev.now _), f1, ?_⟩
  rw [f2]
  exact hE
 | a :: As, c :: Cs, [], s, h, _, h2, _, _, _ => by simp at h2
 | a :: As, c :: Cs, t :: Ts, s, h, h1, h2, ha, ht, hl => by
  have hol := units_len h.ok
  have hwl := wu_len s
  have hsc := h.cut
  rw [actU, List.length_append, List.length_append, List.length_map] at hl
  have hcl : (if c = true then [Un.cut] else [Un.keep t]).length = 1 := by split <;> rfl
  have hsa : WF A ⟨s.out, s.add ++ a, s.cut⟩ := ⟨h.ok, h.ord, h.last, pok_app h.add (pok_mem.2 (fun x hx => (ha a List.mem_cons_self x hx).1)), h.cut, h.att, fun y hy => by rcases List.mem_append.1 hy with hy | hy; exact h.atta y hy; exact (ha a List.mem_cons_self y hy).2⟩
  have hE : E (wu ⟨s.out, s.add ++ a, s.cut⟩) (wu s ++ a.map .add) := by
   have := (E.refl (units s.out ++ s.add.map .add)).app (E.swap s.cut.toNat a).symm
   simpa [wu, List.append_assoc] using this
  have hEl : (wu ⟨s.out, s.add ++ a, s.cut⟩).length = (wu s).length + a.length := by rw [hE.len, List.length_append, List.length_map]
  have h1' : As.length = Cs.length + 1 := by simpa using h1
  have h2' : Ts.length = Cs.length := by simpa using h2
  have ha' : ∀ b ∈ As, ∀ x ∈ b, ElemOK x ∧ x.f2.length ≤ A := fun b hb => ha b (List.mem_cons_of_mem _ hb)
  have ht' : ∀ u ∈ Ts, VA true u ∧ u.length ≤ A := fun u hu => ht u (List.mem_cons_of_mem _ hu)
  cases c with
  | true =>
   obtain ⟨w1, u1⟩ := cut_spec 1 hsa (by omega)
   obtain ⟨o, e2, fo, eu⟩ := dof_spec hA As Cs Ts ⟨s.out, s.add ++ a, s.cut + 1⟩ w1 h1' h2' ha' ht' (by rw [u1, List.length_append, hEl]; simp only [Int.toNat_one, List.length_replicate]; omega)
   refine ⟨o, Ev.congr (fun k => by rw [dofL, if_neg (by omega), if_pos rfl, w64 (by omega) (by omega)]) e2, fo, eu.trans ?_⟩
   rw [u1, actU, if_pos rfl]
   have := (hE.app (E.refl ([Un.cut] ++ actU As Cs Ts)))
   simpa [List.append_assoc] using this
  | false =>
   have core := keep_core 1 t hsa (ht t List.mem_cons_self).1 (ht t List.mem_cons_self).2 hA (by omega) (by rw [hEl]; omega)
   obtain ⟨f1, f2, f3, f4⟩ := flush_spec hsa (by rw [hEl]; omega)
   obtain ⟨b, hb, hbi⟩ := dofB_ev t f1 hA
   obtain ⟨w1, u1⟩ := core b hbi
   obtain ⟨o, e2, fo, eu⟩ := dof_spec hA As Cs Ts _ w1 h1' h2' ha' ht' (by rw [u1, List.length_append, hEl]; simp only [Int.toNat_one, List.length_replicate]; omega)
   refine ⟨o, Ev.congr (fun k => by rw [dofL, if_neg (by omega), if_neg (by decide)]) (Ev.bind hb e2), fo, eu.trans ?_⟩
   rw [u1, actU, if_neg (by decide)]
   have := (hE.app (E.refl ([Un.keep t] ++ actU As Cs Ts)))
   simpa [List.append_assoc] using this
theorem roll8_ev (raw : List Int) (u : Nat) : ∃ x, rollF raw u 8 = some x ∧ 0 ≤ x ∧ x ≤ 7 := by
 have : ∃ x, rollF raw u 8 = some x := by
  unfold rollF
  split
  ·exact ⟨_, rfl⟩
  ·rw [show wrap64 (8 - 1) = 7 by unfold wrap64; omega]
   obtain ⟨r, hr, _⟩ := within_ev (wrap64 (rd raw ((u % raw.length : Nat) : Int) + (((u + 1) / raw.length : Nat) : Int))) 7 (by omega) (by omega)
   exact ⟨r, hr⟩
 obtain ⟨x, hx⟩ := this
 exact ⟨x, hx, roll8_range hx⟩
structure NmOK (name : ByteArray) : Prop where
 nm : NameOK name
 val : ValOK name
 lt : Op.bytesLess sBold.toList name.toList = true
theorem on_ok : ValOK sOn := by
 refine ⟨by decide, by decide, fun i h0 h1 => ?_⟩
 have : i = 0 ∨ i = 1 := by have : sOn.size = 2 := rfl; omega
 rcases this with rfl | rfl <;> decide
theorem bold_ok : NameOK sBold := by
 refine ⟨by decide, by decide, fun i h0 h1 => ?_⟩
 have : i = 0 ∨ i = 1 ∨ i = 2 ∨ i = 3 := by have : sBold.size = 4 := rfl; omega
 rcases this with rfl | rfl | rfl | rfl <;> exact .inl (by decide)
theorem va_one {ch : Bool} {x : S91} (h : ElOK ch x) : VA ch [x] := ⟨fun y hy => by rw [List.mem_singleton.1 hy]; exact h, List.pairwise_singleton _ _⟩
theorem on_va {ch : Bool} {name : ByteArray} (h : NmOK name) : VA ch (onL name) := va_one ⟨h.nm, .inl on_ok⟩
theorem attrsL_ok (y : Int) {name : ByteArray} (h : NmOK name) : VA true (attrsL y name) ∧ (attrsL y name).length ≤ 2 := by
 unfold attrsL
 split
 ·exact ⟨va_one ⟨bold_ok, .inl on_ok⟩, by simp [onL]⟩
 ·split
  ·exact ⟨va_one ⟨bold_ok, .inr ⟨rfl, rfl⟩⟩, by simp⟩
  ·split
   ·refine ⟨⟨fun x hx => ?_, ?_⟩, by simp⟩
    ·simp only [List.mem_cons, List.not_mem_nil, or_false] at hx
     rcases hx with rfl | rfl
     ·exact ⟨bold_ok, .inl h.val⟩
     ·exact ⟨h.nm, .inl on_ok⟩
    ·refine List.Pairwise.cons (fun y hy => ?_) (List.pairwise_singleton _ _)
     rw [List.mem_singleton.1 hy]
     exact h.lt
   ·exact ⟨va_nil _, by simp⟩
theorem addsL_ok {name : ByteArray} (h : NmOK name) (i : Nat) : ∀ j, ∀ x ∈ addsL i name j, ElemOK x ∧ x.f2.length ≤ 2 ∧ x.f2 = onL name ∧ x.f1 = 0 ∧ 65 ≤ x.f0 ∧ x.f0 ≤ 90
 | 0, x, hx => by cases hx
 | j + 1, x, hx => by
  rw [addsL, List.mem_append] at hx
  rcases hx with hx | hx
  ·exact addsL_ok h i j x hx
  ·rw [List.mem_singleton.1 hx]
   have := q_lt i j
   exact ⟨⟨.inr ⟨rfl, by unfold CharOK; simp only; omega⟩, on_va h⟩, by simp [onL], rfl, rfl, by simp only; omega, by simp only; omega⟩
theorem chL_spec (raw : List Int) {name : ByteArray} (h : NmOK name) : ∀ (m i u : Nat) (As : List (List S26)) (Cs : List Bool) (Ts : List (List S91)), (∀ a ∈ As, a.length ≤ 2 ∧ ∀ x ∈ a, ElemOK x ∧ x.f2.length ≤ 2 ∧ x.f2 = onL name ∧ x.f1 = 0 ∧ 65 ≤ x.f0 ∧ x.f0 ≤ 90) → (∀ t ∈ Ts, VA true t ∧ t.length ≤ 2) →
  ∃ w, chL raw name m i u As Cs Ts = some w ∧ (∀ a ∈ w.1, a.length ≤ 2 ∧ ∀ x ∈ a, ElemOK x ∧ x.f2.length ≤ 2 ∧ x.f2 = onL name ∧ x.f1 = 0 ∧ 65 ≤ x.f0 ∧ x.f0 ≤ 90) ∧ (∀ t ∈ w.2.2, VA true t ∧ t.length ≤ 2)
 | 0, i, u, As, Cs, Ts, ha, ht => by
  obtain ⟨x, hx, h0, h7⟩ := roll8_ev raw u
  refine ⟨_, by rw [chL, hx]; rfl, fun a hm => ?_, ht⟩
  rcases List.mem_append.1 hm with hm | hm
  ·exact ha a hm
  ·rw [List.mem_singleton.1 hm]
   exact ⟨by rw [addsL_len]; omega, addsL_ok h i _⟩
 | m + 1, i, u, As, Cs, Ts, ha, ht => by
  obtain ⟨x, hx, h0, h7⟩ := roll8_ev raw u
  obtain ⟨y, hy, _⟩ := roll8_ev raw (rollU raw u)
  obtain ⟨z, hz, _⟩ := roll8_ev raw (rollU raw (rollU raw u))
  obtain ⟨t, e, h1, h2⟩ := chL_spec raw h m (i + 1) (rollU raw (rollU raw (rollU raw u))) (As ++ [addsL i name (x - 5).toNat]) (Cs ++ [z == 0]) (Ts ++ [attrsL y name])
   (fun a hm => by
    rcases List.mem_append.1 hm with hm | hm
    ·exact ha a hm
    ·rw [List.mem_singleton.1 hm]
     exact ⟨by rw [addsL_len]; omega, addsL_ok h i _⟩)
   (fun t hm => by
    rcases List.mem_append.1 hm with hm | hm
    ·exact ht t hm
    ·rw [List.mem_singleton.1 hm]
     exact attrsL_ok y h)
  exact ⟨t, by rw [chL, hx, Option.bind_some, hy, Option.bind_some, hz, Option.bind_some]; exact e, h1, h2⟩
theorem actU_counts : ∀ (As : List (List S26)) (Cs : List Bool) (Ts : List (List S91)), As.length = Cs.length + 1 → Ts.length = Cs.length → (∀ a ∈ As, a.length ≤ 2) → nold (actU As Cs Ts) = Cs.length ∧ (actU As Cs Ts).length ≤ 3 * Cs.length + 2
 | [], Cs, Ts, h1, _, _ => by simp at h1
 | a :: As, [], Ts, _, _, ha => by have := ha a List.mem_cons_self; rw [actU, nold_adds, List.length_map]; exact ⟨rfl, by simp; omega⟩
 | a :: As, c :: Cs, [], _, h2, _ => by simp at h2
 | a :: As, c :: Cs, t :: Ts, h1, h2, ha => by
  have := ha a List.mem_cons_self
  have ih := actU_counts As Cs Ts (by simpa using h1) (by simpa using h2) (fun b hb => ha b (List.mem_cons_of_mem _ hb))
  rw [actU, nold_app, nold_app, nold_adds, List.length_append, List.length_append, List.length_map, List.length_cons]
  cases c <;> simp [nold] <;> omega
structure ChOK (name : ByteArray) (n : Nat) (o : List S95) : Prop where
 fo : FO 2 o
 ex : ∃ As Cs Ts, E (units o) (actU As Cs Ts) ∧ As.length = Cs.length + 1 ∧ Ts.length = Cs.length ∧ Cs.length = n ∧ (∀ a ∈ As, a.length ≤ 2 ∧ ∀ x ∈ a, ElemOK x ∧ x.f2.length ≤ 2 ∧ x.f2 = onL name ∧ x.f1 = 0 ∧ 65 ≤ x.f0 ∧ x.f0 ≤ 90) ∧ (∀ t ∈ Ts, VA true t ∧ t.length ≤ 2)
theorem change_ev (n : Nat) (raw : List Int) {name : ByteArray} (h : NmOK name) (hn : n ≤ 1048576) : ∃ o, Ev (fun k => changeF k (n : Int) raw name) o ∧ ChOK name n o := by
 obtain ⟨t, e, h1, h2⟩ := chL_spec raw h n 0 0 [] [] [] (fun a ha => by cases ha) (fun a ha => by cases ha)
 have hlen := chL_len _ _ _ _ _ _ _ _ _ e
 simp only [List.length_nil] at hlen
 have hc := actU_counts t.1 t.2.1 t.2.2 (by omega) (by omega) (fun a ha => (h1 a ha).1)
 obtain ⟨o, e2, fo, eu⟩ := dof_spec (A := 2) (by omega) t.1 t.2.1 t.2.2 ⟨[], [], 0⟩ (WF.nil 2) (by omega) (by omega) (fun a ha x hx => ⟨((h1 a ha).2 x hx).1, ((h1 a ha).2 x hx).2.1⟩) h2 (by show 0 + _ ≤ _; omega)
 exact ⟨o, Ev.congr (fun k => by rw [changeF, if_pos (by omega), Int.toNat_natCast, e, Option.bind_some]) e2, fo, t.1, t.2.1, t.2.2, eu, by omega, by omega, by omega, h1, h2⟩
theorem ChOK.counts {name : ByteArray} {n : Nat} {o : List S95} (h : ChOK name n o) : nold (units o) = n ∧ (units o).length ≤ 3 * n + 2 := by
 obtain ⟨As, Cs, Ts, eu, h1, h2, h3, h4, h5⟩ := h.ex
 have := actU_counts As Cs Ts h1 h2 (fun a ha => (h4 a ha).1)
 rw [eu.old, eu.len]
 omega
end Go.Proofs.Ytlcodfjlbhjkbaa.PDelta
end
section
namespace Go.Proofs.Ytlcodfjlbhjkbaa.PDelta.Ax
inductive Un where
 | k : Un
 | a : Un
 | c : Un
def Un.isB : Un → Bool
 | .a => false
 | _ => true
def Un.isA : Un → Bool
 | .c => false
 | _ => true
def bef (u : List Un) : Nat := u.countP Un.isB
def aft (u : List Un) : Nat := u.countP Un.isA
theorem bef_k (u : List Un) : bef (.k :: u) = bef u + 1 := List.countP_cons_of_pos rfl
theorem bef_a (u : List Un) : bef (.a :: u) = bef u := List.countP_cons_of_neg (by decide)
theorem bef_c (u : List Un) : bef (.c :: u) = bef u + 1 := List.countP_cons_of_pos rfl
theorem bef_app (u v : List Un) : bef (u ++ v) = bef u + bef v := by simp [bef]
theorem aft_app (u v : List Un) : aft (u ++ v) = aft u + aft v := by simp [aft]
theorem bef_len (u : List Un) : bef u ≤ u.length := List.countP_le_length
theorem aft_len (u : List Un) : aft u ≤ u.length := List.countP_le_length
section
variable {u v r : List Un}
end
section
variable {u v x y : List Un}
end
end Go.Proofs.Ytlcodfjlbhjkbaa.PDelta.Ax
end
section
namespace Go.Proofs.Ytlcodfjlbhjkbaa.PDelta.Ax
open Go.RowKit Go.Proofs.YtlcodfjlbhjkbaaW.PrintWords Go.Proofs.YtlcodfjlbhjkbaaW.PrintLast Go.Proofs.YtlcodfjlbhjkbaaW.PrintMore
def un (k : Int) : Un := if k = 0 then .k else if k = 1 then .a else .c
def K3 (k : Int) : Prop := k = 0 ∨ k = 1 ∨ k = 2
def ex (l : List S121) : List Un := l.flatMap fun s => List.replicate s.f1.toNat (un s.f0)
theorem ex_nil : ex [] = [] := rfl
theorem ex_cons (s : S121) (l : List S121) : ex (s :: l) = List.replicate s.f1.toNat (un s.f0) ++ ex l := by simp [ex]
theorem ex_app (l m : List S121) : ex (l ++ m) = ex l ++ ex m := by simp [ex]
theorem ex_one (s : S121) : ex [s] = List.replicate s.f1.toNat (un s.f0) := by simp [ex]
def Fn : Int → List S121 → Prop
 | _, [] => True
 | p, s :: l => K3 s.f0 ∧ 1 ≤ s.f1 ∧ s.f0 ≠ p ∧ ¬ (p = 2 ∧ s.f0 = 1) ∧ Fn s.f0 l
def lk : Int → List S121 → Int
 | p, [] => p
 | _, s :: l => lk s.f0 l
theorem lk_app : ∀ (p : Int) (l m : List S121), lk p (l ++ m) = lk (lk p l) m
 | p, [], m => rfl
 | p, s :: l, m => lk_app s.f0 l m
theorem Fn.app : ∀ (p : Int) (l m : List S121), Fn p (l ++ m) ↔ Fn p l ∧ Fn (lk p l) m
 | p, [], m => by simp [Fn, lk]
 | p, s :: l, m => by
  rw [List.cons_append, Fn, Fn, Fn.app s.f0 l m, lk]
  constructor
  ·rintro ⟨h1, h2, h3, h4, h5, h6⟩
   exact ⟨⟨h1, h2, h3, h4, h5⟩, h6⟩
  ·rintro ⟨⟨h1, h2, h3, h4, h5⟩, h6⟩
   exact ⟨h1, h2, h3, h4, h5, h6⟩
theorem Fn.len : ∀ (p : Int) (l : List S121), Fn p l → l.length ≤ (ex l).length
 | p, [], _ => Nat.le_refl _
 | p, s :: l, h => by
  have := Fn.len s.f0 l h.2.2.2.2
  have h2 := h.2.1
  rw [ex_cons]
  simp only [List.length_append, List.length_replicate, List.length_cons]
  omega
theorem wrap_small {i : Int} (h0 : -1099511627776 ≤ i) (h : i ≤ 1099511627776) : wrap64 i = i := by unfold wrap64; omega
theorem ex_mem_le {l : List S121} {s : S121} (h : s ∈ l) : s.f1.toNat ≤ (ex l).length := by
 obtain ⟨a, b, rfl⟩ := List.append_of_mem h
 rw [ex_app, ex_cons]
 simp only [List.length_append, List.length_replicate]
 omega
section
variable {s : S121} {l : List S121} {u : Int}
end
theorem un0 {k : Int} (h : k = 0) : un k = .k := by rw [h]; rfl
theorem un1 {k : Int} (h : k = 1) : un k = .a := by rw [h]; rfl
theorem un2 {k : Int} (h : k = 2) : un k = .c := by rw [h]; rfl
theorem bef_rep (n : Nat) (x : Un) : bef (List.replicate n x) = if x.isB then n else 0 := by simp [bef, List.countP_replicate]
theorem aft_rep (n : Nat) (x : Un) : aft (List.replicate n x) = if x.isA then n else 0 := by simp [aft, List.countP_replicate]
theorem mn_le (x y : Int) : mn x y ≤ x ∧ mn x y ≤ y ∧ (mn x y = x ∨ mn x y = y) := by
 unfold mn
 split <;> omega
theorem rd_mid (P R : List S121) (s : S121) : rd_T121 (P ++ s :: R) (P.length : Int) = s := by
 simp [rd_T121, List.getD_eq_getElem?_getD]
theorem rd_before (Q R : List S121) (t : S121) : rd_T121 (Q ++ [t] ++ R) ((Q.length : Int)) = t := by
 rw [List.append_assoc]
 exact rd_mid Q R t
theorem ex_len_app (P R : List S121) : (ex (P ++ R)).length = (ex P).length + (ex R).length := by rw [ex_app, List.length_append]
theorem ex_len_cons (s : S121) (R : List S121) : (ex (s :: R)).length = s.f1.toNat + (ex R).length := by rw [ex_cons, List.length_append, List.length_replicate]
theorem bef_snoc (P : List S121) (s : S121) : bef (ex (P ++ [s])) = bef (ex P) + if (un s.f0).isB then s.f1.toNat else 0 := by rw [ex_app, ex_one, bef_app, bef_rep]
theorem aft_snoc (P : List S121) (s : S121) : aft (ex (P ++ [s])) = aft (ex P) + if (un s.f0).isA then s.f1.toNat else 0 := by rw [ex_app, ex_one, aft_app, aft_rep]
theorem wmid {i : Int} (h0 : 0 ≤ i) (h : i ≤ 4611686018427387904) : wrap64 i = i := by unfold wrap64; omega
theorem mn_left {x : Int} (h : x ≤ 2147483647) : Go.Proofs.YtlcodfjlbhjkbaaW.PrintWords.mn x 2147483648 = x := by
 unfold Go.Proofs.YtlcodfjlbhjkbaaW.PrintWords.mn
 rw [if_neg (by omega)]
theorem check_l0 : ∀ (R P : List S121) (k : Nat), Fn (-1) (P ++ R) → (ex (P ++ R)).length ≤ 2147483647 → 4 * R.length < k →
  axis_Check.l0 k (P ++ R) (bef (ex P) : Nat) (aft (ex P) : Nat) (P ++ R) ((P ++ R).length : Int) (P.length : Int) = some 0
 | [], P, k, hf, hs, hk => by
  obtain ⟨m, rfl⟩ : ∃ m, k = m + 1 := ⟨k - 1, by omega⟩
  have h1 := bef_len (ex P)
  have h2 := aft_len (ex P)
  rw [List.append_nil] at hs ⊢
  rw [axis_Check.l0, if_neg (by omega), if_neg (by omega), if_neg (by omega)]
 | s :: R, P, k, hf, hs, hk => by
  obtain ⟨m, rfl⟩ : ∃ m, k = m + 4 := ⟨k - 4, by simp only [List.length_cons] at hk; omega⟩
  have hf2 := hf
  rw [Fn.app] at hf2
  obtain ⟨_, hk3, h1, hne, h21, hR⟩ := hf2
  have hl := Fn.len _ _ hf
  have e : P ++ s :: R = (P ++ [s]) ++ R := by simp
  have hb := bef_len (ex (P ++ [s]))
  have ha := aft_len (ex (P ++ [s]))
  have hx : (ex (P ++ [s])).length ≤ (ex (P ++ s :: R)).length := by have := ex_len_app (P ++ [s]) R; rw [← e] at this; omega
  have ih := check_l0 R (P ++ [s]) m (by rw [← e]; exact hf) (by rw [← e]; exact hs) (by simp only [List.length_cons] at hk; omega)
  rw [← e] at ih
  have hn : (((P ++ [s]).length : Nat) : Int) = (P.length : Int) + 1 := by simp
  rw [hn] at ih
  have hmx := ex_mem_le (l := P ++ s :: R) (s := s) (by simp)
  have hJ3 : axis_Check.j3 (m + 1) (P ++ s :: R) (bef (ex P) : Nat) (aft (ex P) : Nat) (P ++ s :: R) ((P ++ s :: R).length : Int) (P.length : Int) s.f0 s.f1 = some 0 := by
   rw [bef_snoc] at hb ih
   rw [aft_snoc] at ha ih
   have hw1 : wrap64 ((P.length : Int) + 1) = (P.length : Int) + 1 := wmid (by omega) (by simp only [List.length_append, List.length_cons] at hl; omega)
   rw [axis_Check.j3, hw1]
   have hb0 := bef_len (ex P)
   have ha0 := aft_len (ex P)
   have h3 : (ex P).length + s.f1.toNat ≤ 2147483647 := by rw [ex_len_app, ex_len_cons] at hs; omega
   have e1 : wrap64 (((bef (ex P) : Nat) : Int) + s.f1) = ((bef (ex P) : Nat) : Int) + s.f1 := wmid (by omega) (by omega)
   have e2 : wrap64 (((aft (ex P) : Nat) : Int) + s.f1) = ((aft (ex P) : Nat) : Int) + s.f1 := wmid (by omega) (by omega)
   rw [e1, e2, mn_left (by omega), mn_left (by omega)]
   have e3 : ((bef (ex P) : Nat) : Int) + s.f1 = ((bef (ex P) + s.f1.toNat : Nat) : Int) := by omega
   have e4 : ((aft (ex P) : Nat) : Int) + s.f1 = ((aft (ex P) + s.f1.toNat : Nat) : Int) := by omega
   rw [e3, e4]
   rcases hk3 with e | e | e
   ·rw [un0 e] at ih
    simp only [Un.isA, Un.isB, ↓reduceIte] at ih
    rw [if_neg (by omega), if_neg (by omega)]
    exact ih
   ·rw [un1 e] at ih
    simp only [Un.isA, Un.isB, ↓reduceIte, Bool.false_eq_true, Nat.add_zero] at ih
    rw [if_pos e, if_neg (by omega)]
    exact ih
   ·rw [un2 e] at ih
    simp only [Un.isA, Un.isB, ↓reduceIte, Bool.false_eq_true, Nat.add_zero] at ih
    rw [if_neg (by omega), if_pos e]
    exact ih
  have hlt : (P.length : Int) < ((P ++ s :: R).length : Int) := by simp; omega
  rw [axis_Check.l0, if_pos hlt, if_pos (by omega), if_pos hlt, rd_mid]
  rw [if_neg (by rcases hk3 with e | e | e <;> omega)]
  rw [axis_Check.j1, if_neg (by rw [decide_eq_true_iff]; rcases hk3 with e | e | e <;> omega), if_neg (by omega)]
  rw [axis_Check.j2, if_neg (by rw [decide_eq_true_iff]; omega)]
  by_cases hp : (P.length : Int) > 0
  ·rcases List.eq_nil_or_concat P with rfl | ⟨Q, t, rfl⟩
   ·simp at hp
   ·rw [List.concat_eq_append] at *
    have hq : ((Q ++ [t]).length : Int) - 1 = (Q.length : Int) := by simp
    have hw2 : wrap64 (((Q ++ [t]).length : Int) - 1) = (Q.length : Int) := by rw [hq]; exact wmid (by omega) (by simp only [List.length_append, List.length_cons] at hl; omega)
    rw [if_pos hp, hw2, if_pos (by omega), if_pos (by simp only [List.length_append, List.length_cons, List.length_nil]; omega), rd_before Q (s :: R) t]
    rw [lk_app] at hne h21
    have hne' : s.f0 ≠ t.f0 := hne
    have h21' : ¬ (t.f0 = 2 ∧ s.f0 = 1) := h21
    rw [if_neg (by omega)]
    split
    ·rw [if_neg (by omega)]
     exact hJ3
    ·exact hJ3
  ·rw [if_neg hp]
   exact hJ3
theorem check_ok {l : List S121} {k : Nat} (hf : Fn (-1) l) (hs : (ex l).length ≤ 2147483647) (hk : 4 * (ex l).length < k) : axis_Check.f k l = some 0 :=
 check_l0 l [] k hf hs (by have := Fn.len _ _ hf; omega)
theorem lengths_l0 : ∀ (R P : List S121) (k : Nat), Fn (-1) (P ++ R) → (ex (P ++ R)).length ≤ 2147483647 → R.length < k →
  axis_lengths.l0 k (bef (ex P) : Nat) (aft (ex P) : Nat) (P ++ R) ((P ++ R).length : Int) (P.length : Int) = some (((bef (ex (P ++ R)) : Nat) : Int), ((aft (ex (P ++ R)) : Nat) : Int))
 | [], P, k, hf, hs, hk => by
  obtain ⟨m, rfl⟩ : ∃ m, k = m + 1 := ⟨k - 1, by omega⟩
  rw [List.append_nil]
  rw [axis_lengths.l0, if_neg (by omega)]
 | s :: R, P, k, hf, hs, hk => by
  obtain ⟨m, rfl⟩ : ∃ m, k = m + 1 := ⟨k - 1, by omega⟩
  have hf2 := hf
  rw [Fn.app] at hf2
  obtain ⟨_, hk3, h1, hne, h21, hR⟩ := hf2
  have hl := Fn.len _ _ hf
  have e : P ++ s :: R = (P ++ [s]) ++ R := by simp
  have ih := lengths_l0 R (P ++ [s]) m (by rw [← e]; exact hf) (by rw [← e]; exact hs) (by simp only [List.length_cons] at hk; omega)
  rw [← e] at ih
  have hn : (((P ++ [s]).length : Nat) : Int) = (P.length : Int) + 1 := by simp
  rw [hn, bef_snoc, aft_snoc] at ih
  have hw1 : wrap64 ((P.length : Int) + 1) = (P.length : Int) + 1 := wmid (by omega) (by simp only [List.length_append, List.length_cons] at hl; omega)
  have hb0 := bef_len (ex P)
  have ha0 := aft_len (ex P)
  have h3 : (ex P).length + s.f1.toNat ≤ 2147483647 := by rw [ex_len_app, ex_len_cons] at hs; omega
  have e1 : wrap64 (((bef (ex P) : Nat) : Int) + s.f1) = ((bef (ex P) + s.f1.toNat : Nat) : Int) := by rw [wmid (by omega) (by omega)]; omega
  have e2 : wrap64 (((aft (ex P) : Nat) : Int) + s.f1) = ((aft (ex P) + s.f1.toNat : Nat) : Int) := by rw [wmid (by omega) (by omega)]; omega
  have hlt : (P.length : Int) < ((P ++ s :: R).length : Int) := by simp; omega
  rw [axis_lengths.l0, if_pos hlt, if_pos (by omega), if_pos hlt, rd_mid, hw1, e1, e2]
  rcases hk3 with e | e | e
  ·rw [un0 e] at ih
   simp only [Un.isA, Un.isB, ↓reduceIte] at ih
   rw [if_neg (by omega), if_neg (by omega)]
   exact ih
  ·rw [un1 e] at ih
   simp only [Un.isA, Un.isB, ↓reduceIte, Bool.false_eq_true, Nat.add_zero] at ih
   rw [if_pos e, if_neg (by omega)]
   exact ih
  ·rw [un2 e] at ih
   simp only [Un.isA, Un.isB, ↓reduceIte, Bool.false_eq_true, Nat.add_zero] at ih
   rw [if_neg (by omega), if_pos e]
   exact ih
theorem lengths_ok {l : List S121} {k : Nat} (hf : Fn (-1) l) (hs : (ex l).length ≤ 2147483647) (hk : (ex l).length < k) : axis_lengths.f k l = some (((bef (ex l) : Nat) : Int), ((aft (ex l) : Nat) : Int)) :=
 lengths_l0 l [] k hf hs (by have := Fn.len _ _ hf; omega)
theorem within_ok (v lo hi : Int) (h0 : 0 ≤ lo) (h1 : lo ≤ hi) (h2 : hi ≤ 1000) : ∃ r, chanceryref1_Within.f v lo hi = some r ∧ lo ≤ r ∧ r ≤ hi := by
 unfold chanceryref1_Within.f
 rw [show wrap64 (hi - lo) = hi - lo from wmid (by omega) (by omega), show wrap64 (hi - lo + 1) = hi - lo + 1 from wmid (by omega) (by omega), if_neg (by omega)]
 obtain ⟨n, hn⟩ : ∃ n, n = hi - lo + 1 := ⟨_, rfl⟩
 rw [← hn]
 refine ⟨_, rfl, ?_⟩
 have h3 : -n < Int.tmod v n ∧ Int.tmod v n < n := ⟨Int.lt_tmod_of_pos v (by omega), Int.tmod_lt_of_pos v (by omega)⟩
 have h4 : wrap64 (Int.tmod v n + n) = Int.tmod v n + n := wmid (by omega) (by omega)
 rw [h4]
 have h5 : 0 ≤ Int.tmod (Int.tmod v n + n) n := Int.tmod_nonneg _ (by omega)
 have h6 : Int.tmod (Int.tmod v n + n) n < n := Int.tmod_lt_of_pos _ (by omega)
 rw [wmid (by omega) (by omega)]
 omega
def placeS : List S121 → Int → Int → Int → Int
 | [], _, _, _ => -1
 | s :: l, f, t, p => if s.f0 = 1 then placeS l f (t + s.f1) p else if s.f0 = 0 then (if p < f + s.f1 then t + p - f else placeS l (f + s.f1) (t + s.f1) p) else if p < f + s.f1 then -1 else placeS l (f + s.f1) t p
def Pos (l : List S121) : Prop := ∀ s, s ∈ l → K3 s.f0 ∧ 1 ≤ s.f1
theorem Fn.pos : ∀ {p : Int} {l : List S121}, Fn p l → Pos l
 | p, [], _, s, h => by cases h
 | p, x :: l, h, s, hs => by
  rcases List.mem_cons.1 hs with rfl | hs
  ·exact ⟨h.1, h.2.1⟩
  ·exact (Fn.pos h.2.2.2.2) s hs
theorem Pos.head {s : S121} {l : List S121} (h : Pos (s :: l)) : K3 s.f0 ∧ 1 ≤ s.f1 := h s (List.mem_cons_self ..)
theorem Pos.tail {s : S121} {l : List S121} (h : Pos (s :: l)) : Pos l := fun x hx => h x (List.mem_cons_of_mem _ hx)
def mx2 (a b : Int) : Int := if a < b then b else a
def hullS : List S121 → Int → Int → Int → Int → Int → Int → Int × Int
 | [], _, _, _, _, first, last => (first, last)
 | s :: l, fr, tz, old, now, first, last =>
  hullS l fr tz (if s.f0 = 1 then old else old + s.f1) (if s.f0 = 2 then now else now + s.f1)
   (if s.f0 = 0 ∧ mx2 fr old < mn tz (old + s.f1) then (if last = 0 then now + mx2 fr old - old else first) else first)
   (if s.f0 = 0 ∧ mx2 fr old < mn tz (old + s.f1) then now + mn tz (old + s.f1) - old else last)
theorem hull_keeps : ∀ (l : List S121) (fr tz old now first last : Int), Pos l → 0 ≤ old → 0 ≤ now → 0 ≤ last → last ≤ now → (hullS l fr tz old now first last).2 ≥ last ∧ (last ≠ 0 → (hullS l fr tz old now first last).1 = first)
 | [], fr, tz, old, now, first, last, _, _, _, _, _ => ⟨Int.le_refl _, fun _ => rfl⟩
 | s :: l, fr, tz, old, now, first, last, h, ho, hn, hl, hln => by
  obtain ⟨hk, h1⟩ := h.head
  rw [hullS]
  by_cases c : s.f0 = 0 ∧ mx2 fr old < mn tz (old + s.f1)
  ·rw [if_pos c, if_pos c, if_neg (by omega), if_neg (by omega)]
   obtain ⟨c0, c⟩ := c
   have ha : old ≤ mx2 fr old := by unfold mx2; split <;> omega
   have hb := (mn_le tz (old + s.f1)).2.1
   obtain ⟨a1, a2⟩ := hull_keeps l fr tz (old + s.f1) (now + s.f1) (if last = 0 then now + mx2 fr old - old else first) (now + mn tz (old + s.f1) - old) h.tail (by omega) (by omega) (by omega) (by omega)
   refine ⟨by omega, fun e => ?_⟩
   rw [a2 (by omega), if_neg e]
  ·rw [if_neg c, if_neg c]
   exact hull_keeps l fr tz _ _ first last h.tail (by split <;> omega) (by split <;> omega) hl (by split <;> omega)
theorem hull_has : ∀ (l : List S121) (fr tz old now first last p x : Int), Pos l → 0 ≤ old → 0 ≤ now → 0 ≤ last → last ≤ now → (last ≠ 0 → first ≤ now) → fr ≤ p → p < tz → old ≤ p → placeS l old now p = x → 0 ≤ x →
  (hullS l fr tz old now first last).1 ≤ x ∧ x < (hullS l fr tz old now first last).2
 | [], fr, tz, old, now, first, last, p, x, _, _, _, _, _, _, _, _, _, hx, h0 => by rw [placeS] at hx; omega
 | s :: l, fr, tz, old, now, first, last, p, x, h, ho, hn, hl, hln, hf, hp1, hp2, hp3, hx, h0 => by
  obtain ⟨hk, h1⟩ := h.head
  have ha : old ≤ mx2 fr old ∧ (mx2 fr old = fr ∨ mx2 fr old = old) := by unfold mx2; split <;> omega
  have hb := mn_le tz (old + s.f1)
  rw [placeS] at hx
  rw [hullS]
  by_cases c1 : s.f0 = 1
  ·rw [if_pos c1] at hx
   have hc : ¬ (s.f0 = 0 ∧ mx2 fr old < mn tz (old + s.f1)) := fun e => by have := e.1; omega
   rw [if_neg hc, if_neg hc, if_pos c1, if_neg (show ¬ s.f0 = 2 by omega)]
   exact hull_has l fr tz old _ first last p x h.tail ho (by omega) hl (by omega) (by omega) hp1 hp2 hp3 hx h0
  rw [if_neg c1] at hx
  by_cases c0 : s.f0 = 0
  ·rw [if_pos c0] at hx
   by_cases c : p < old + s.f1
   ·rw [if_pos c] at hx
    have hc : s.f0 = 0 ∧ mx2 fr old < mn tz (old + s.f1) := ⟨c0, by omega⟩
    rw [if_pos hc, if_pos hc, if_neg c1, if_neg (by omega)]
    obtain ⟨a1, a2⟩ := hull_keeps l fr tz (old + s.f1) (now + s.f1) (if last = 0 then now + mx2 fr old - old else first) (now + mn tz (old + s.f1) - old) h.tail (by omega) (by omega) (by omega) (by omega)
    refine ⟨?_, by omega⟩
    rw [a2 (by omega)]
    split <;> omega
   ·rw [if_neg c] at hx
    by_cases hc : s.f0 = 0 ∧ mx2 fr old < mn tz (old + s.f1)
    ·rw [if_pos hc, if_pos hc, if_neg c1, if_neg (by omega)]
     exact hull_has l fr tz _ _ _ _ p x h.tail (by omega) (by omega) (by omega) (by omega) (fun _ => by split <;> omega) hp1 hp2 (by omega) hx h0
    ·rw [if_neg hc, if_neg hc, if_neg c1, if_neg (by omega)]
     exact hull_has l fr tz _ _ _ _ p x h.tail (by omega) (by omega) (by omega) (by omega) (by omega) hp1 hp2 (by omega) hx h0
  ·rw [if_neg c0] at hx
   have hc : ¬ (s.f0 = 0 ∧ mx2 fr old < mn tz (old + s.f1)) := fun e => c0 e.1
   rw [if_neg hc, if_neg hc, if_neg c1, if_pos (show s.f0 = 2 by rcases hk with e | e | e <;> omega)]
   by_cases c : p < old + s.f1
   ·rw [if_pos c] at hx
    omega
   ·rw [if_neg c] at hx
    exact hull_has l fr tz _ _ _ _ p x h.tail (by omega) hn hl hln hf hp1 hp2 (by omega) hx h0
structure At (P R : List S121) (s : S121) : Prop where
 k3 : K3 s.f0
 pos : 1 ≤ s.f1
 lt : (P.length : Int) < ((P ++ s :: R).length : Int)
 next : wrap64 ((P.length : Int) + 1) = (((P ++ [s]).length : Nat) : Int)
 app : P ++ s :: R = (P ++ [s]) ++ R
 sum : (ex P).length + s.f1.toNat ≤ 1000000
 b0 : bef (ex P) ≤ (ex P).length
 a0 : aft (ex P) ≤ (ex P).length
theorem At.of {P R : List S121} {s : S121} (hf : Fn (-1) (P ++ s :: R)) (hs : (ex (P ++ s :: R)).length ≤ 1000000) : At P R s := by
 have hf2 := hf
 rw [Fn.app] at hf2
 obtain ⟨_, hk3, h1, hne, h21, hR⟩ := hf2
 have hl := Fn.len _ _ hf
 refine ⟨hk3, h1, by simp; omega, ?_, by simp, by rw [ex_len_app, ex_len_cons] at hs; omega, bef_len _, aft_len _⟩
 rw [wmid (by omega) (by simp only [List.length_append, List.length_cons] at hl; omega)]
 simp
theorem bef_i (P : List S121) (s : S121) (h : 1 ≤ s.f1) : ((bef (ex (P ++ [s])) : Nat) : Int) = (bef (ex P) : Int) + if (un s.f0).isB then s.f1 else 0 := by
 rw [bef_snoc]
 split <;> omega
theorem aft_i (P : List S121) (s : S121) (h : 1 ≤ s.f1) : ((aft (ex (P ++ [s])) : Nat) : Int) = (aft (ex P) : Int) + if (un s.f0).isA then s.f1 else 0 := by
 rw [aft_snoc]
 split <;> omega
theorem hull_l0 : ∀ (R P : List S121) (k : Nat) (fr tz first last : Int), Fn (-1) (P ++ R) → (ex (P ++ R)).length ≤ 1000000 → 0 ≤ fr → fr ≤ 1000000 → 0 ≤ tz → tz ≤ 1000000 → 3 * R.length < k →
  axis_Hull.l0 k fr tz first last (bef (ex P) : Nat) (aft (ex P) : Nat) (P ++ R) ((P ++ R).length : Int) (P.length : Int) = some (hullS R fr tz (bef (ex P) : Nat) (aft (ex P) : Nat) first last)
 | [], P, k, fr, tz, first, last, hf, hs, a1, a2, a3, a4, hk => by
  obtain ⟨m, rfl⟩ : ∃ m, k = m + 1 := ⟨k - 1, by omega⟩
  rw [List.append_nil, axis_Hull.l0, if_neg (Int.lt_irrefl _)]
  rfl
 | s :: R, P, k, fr, tz, first, last, hf, hs, a1, a2, a3, a4, hk => by
  obtain ⟨m, rfl⟩ : ∃ m, k = m + 3 := ⟨k - 3, by simp only [List.length_cons] at hk; omega⟩
  have A := At.of hf hs
  have h1 := A.pos
  have h2 := A.sum
  have h3 := A.b0
  have h4 := A.a0
  have ih := fun first last => hull_l0 R (P ++ [s]) m fr tz first last (by rw [← A.app]; exact hf) (by rw [← A.app]; exact hs) a1 a2 a3 a4 (by simp only [List.length_cons] at hk; omega)
  rw [← A.app, bef_i P s A.pos, aft_i P s A.pos] at ih
  rw [axis_Hull.l0, if_pos A.lt, if_pos (Int.natCast_nonneg _), if_pos A.lt, rd_mid]
  obtain ⟨f, hf'⟩ : ∃ f : Int, f = (bef (ex P) : Nat) := ⟨_, rfl⟩
  obtain ⟨t, ht'⟩ : ∃ f : Int, f = (aft (ex P) : Nat) := ⟨_, rfl⟩
  rw [← hf', ← ht'] at ih ⊢
  have e1 : wrap64 (f + s.f1) = f + s.f1 := wmid (by omega) (by omega)
  have e2 : wrap64 (t + s.f1) = t + s.f1 := wmid (by omega) (by omega)
  rw [e1]
  obtain ⟨lo, hlo⟩ : ∃ x, x = mx2 fr f := ⟨_, rfl⟩
  obtain ⟨hi, hhi⟩ : ∃ x, x = mn tz (f + s.f1) := ⟨_, rfl⟩
  rw [show Go.Proofs.YtlcodfjlbhjkbaaW.PrintWords.mx fr f = lo from hlo.symm, show Go.Proofs.YtlcodfjlbhjkbaaW.PrintWords.mn tz (f + s.f1) = hi from hhi.symm]
  have hb := mn_le tz (f + s.f1)
  have ha : mx2 fr f = fr ∨ mx2 fr f = f := by unfold mx2; split <;> omega
  have hlast : hullS (s :: R) fr tz f t first last = hullS R fr tz (if s.f0 = 1 then f else f + s.f1) (if s.f0 = 2 then t else t + s.f1) (if s.f0 = 0 ∧ lo < hi then (if last = 0 then t + lo - f else first) else first) (if s.f0 = 0 ∧ lo < hi then t + hi - f else last) := by rw [hullS, hlo, hhi]
  rw [hlast]
  rw [← hlo] at ha
  rw [← hhi] at hb
  clear hlast hlo hhi
  have e3 : wrap64 (t + lo) = t + lo := wmid (by omega) (by omega)
  have e4 : wrap64 (t + lo - f) = t + lo - f := wrap_small (by omega) (by omega)
  have e5 : wrap64 (t + hi) = t + hi := wmid (by omega) (by omega)
  have e6 : wrap64 (t + hi - f) = t + hi - f := wrap_small (by omega) (by omega)
  rcases A.k3 with e | e | e
  ·rw [un0 e] at ih
   simp only [Un.isA, Un.isB, ↓reduceIte] at ih
   rw [if_pos e, if_neg (show ¬ s.f0 = 1 by omega), if_neg (show ¬ s.f0 = 2 by omega)]
   by_cases c : lo < hi
   ·have hc : s.f0 = 0 ∧ lo < hi := ⟨e, c⟩
    rw [decide_eq_true c, if_pos hc, if_pos hc, axis_Hull.j1, if_pos rfl, e3, e4, e5, e6]
    by_cases d : last = 0
    ·rw [if_pos d, if_pos d, axis_Hull.j2, if_neg (show ¬ s.f0 = 2 by omega), if_neg (show ¬ s.f0 = 1 by omega), e1, e2, A.next]
     exact ih _ _
    ·rw [if_neg d, if_neg d, axis_Hull.j2, if_neg (show ¬ s.f0 = 2 by omega), if_neg (show ¬ s.f0 = 1 by omega), e1, e2, A.next]
     exact ih _ _
   ·have hc : ¬ (s.f0 = 0 ∧ lo < hi) := fun h => c h.2
    rw [decide_eq_false c, if_neg hc, if_neg hc, axis_Hull.j1, if_neg Bool.false_ne_true, axis_Hull.j2, if_neg (show ¬ s.f0 = 2 by omega), if_neg (show ¬ s.f0 = 1 by omega), e1, e2, A.next]
    exact ih _ _
  ·rw [un1 e] at ih
   simp only [Un.isA, Un.isB, ↓reduceIte, Bool.false_eq_true, Int.add_zero] at ih
   have hc : ¬ (s.f0 = 0 ∧ lo < hi) := fun h => by have := h.1; omega
   rw [if_neg (show ¬ s.f0 = 0 by omega), if_pos e, if_neg (show ¬ s.f0 = 2 by omega), if_neg hc, if_neg hc, axis_Hull.j1, if_neg Bool.false_ne_true, axis_Hull.j2, if_neg (show ¬ s.f0 = 2 by omega), if_pos e, e2, A.next]
   exact ih _ _
  ·rw [un2 e] at ih
   simp only [Un.isA, Un.isB, ↓reduceIte, Bool.false_eq_true, Int.add_zero] at ih
   have hc : ¬ (s.f0 = 0 ∧ lo < hi) := fun h => by have := h.1; omega
   rw [if_neg (show ¬ s.f0 = 0 by omega), if_neg (show ¬ s.f0 = 1 by omega), if_pos e, if_neg hc, if_neg hc, axis_Hull.j1, if_neg Bool.false_ne_true, axis_Hull.j2, if_pos e, if_neg (show ¬ s.f0 = 1 by omega), e1, A.next]
   exact ih _ _
end Go.Proofs.Ytlcodfjlbhjkbaa.PDelta.Ax
end
section
namespace Go.Proofs.Ytlcodfjlbhjkbaa.PDelta
open Go.RowKit Go.Proofs.YtlcodfjlbhjkbaaW.PrintWords Go.Proofs.YtlcodfjlbhjkbaaW.PrintLast Go.Proofs.YtlcodfjlbhjkbaaW.PrintMore
def kd : Un → Ax.Un
 | .keep _ => .k
 | .cut => .c
 | .add _ => .a
def sizeI (s : S95) : Int := if s.f0 = 1 then (s.f3.length : Int) else s.f1
def axS (acc : List S121) (s : S95) : List S121 :=
 if s.f0 = 0 ∧ 0 < acc.length ∧ (rd_T121 acc ((acc.length : Int) - 1)).f0 = 0 then acc.set (acc.length - 1) ⟨(rd_T121 acc ((acc.length : Int) - 1)).f0, wrap64 ((rd_T121 acc ((acc.length : Int) - 1)).f1 + s.f1)⟩ else acc ++ [⟨s.f0, sizeI s⟩]
def axF : List S121 → List S95 → List S121
 | acc, [] => acc
 | acc, s :: d => axF (axS acc s) d
theorem axS_len (acc : List S121) (s : S95) : (axS acc s).length ≤ acc.length + 1 := by
 unfold axS
 split <;> simp
theorem axis_l0 (d : List S95) (hl : d.length ≤ 1073741824) (n : Nat) : ∀ (i : Nat) (acc : List S121), i + n = d.length → acc.length ≤ i →
  Ev (fun k => delta_Axis.l0 k acc d (d.length : Int) (i : Int)) (axF acc (d.drop i), 0) := by
 induction n with
 | zero =>
  intro i acc hi ha
  rw [List.drop_eq_nil_of_le (by omega), axF]
  refine Ev.step (f := fun _ => some (acc, 0)) (fun k => ?_) (Ev.now _)
  simp only [delta_Axis.l0]
  rw [if_neg (by omega)]
 | succ n ih =>
  intro i acc hi ha
  have hlt : i < d.length := by omega
  rw [drop_T95 d i hlt, axF]
  refine Ev.step (f := fun k => delta_Axis.l0 k (axS acc (rd_T95 d (i : Int))) d (d.length : Int) ((i + 1 : Nat) : Int)) (fun k => ?_) (ih (i + 1) _ (by omega) (by have := axS_len acc (rd_T95 d (i : Int)); omega))
  simp only [delta_Axis.l0]
  rw [if_pos (by omega), if_pos (by omega), if_pos (by omega), wrap_up (by omega) (by omega), show wrap64 ((acc.length : Int) - 1) = (acc.length : Int) - 1 from w64 (by omega) (by omega), size_is, show ((i : Int) + 1) = ((i + 1 : Nat) : Int) from by omega]
  simp only [Option.bind_some]
  obtain ⟨s, hs⟩ : ∃ s, s = rd_T95 d (i : Int) := ⟨_, rfl⟩
  rw [← hs, show (if s.f0 = 1 then (s.f3.length : Int) else s.f1) = sizeI s from rfl]
  by_cases c0 : s.f0 = 0
  ·rw [if_pos c0]
   by_cases c1 : 0 < acc.length
   ·rw [if_pos (by omega), if_pos (by omega), if_pos (by omega)]
    by_cases c2 : (rd_T121 acc ((acc.length : Int) - 1)).f0 = 0
    ·rw [if_pos c2, show ((acc.length : Int) - 1).toNat = acc.length - 1 by omega, axS, if_pos ⟨c0, c1, c2⟩]
    ·rw [if_neg c2, if_pos (by omega), axS, if_neg (fun h => c2 h.2.2)]
   ·rw [if_neg (by omega), if_pos (by omega), axS, if_neg (fun h => c1 h.2.1)]
  ·rw [if_neg c0, if_pos (by omega), axS, if_neg (fun h => c0 h.1)]
theorem us_kd {s : S95} (h : StepOK s) : (us s).map kd = List.replicate (sizeI s).toNat (Ax.un s.f0) ∧ 1 ≤ sizeI s ∧ Ax.K3 s.f0 := by
 rcases h with h | h | h
 ·have e : sizeI s = s.f1 := if_neg (by omega)
  rw [us_keep h.1, e, List.map_replicate, h.1]
  exact ⟨rfl, h.2.1, .inl rfl⟩
 ·have e : sizeI s = (s.f3.length : Int) := if_pos h.1
  rw [us_add h.1, e, h.1, Int.toNat_natCast, List.map_map]
  refine ⟨?_, ?_, .inr (.inl rfl)⟩
  ·have : kd ∘ Un.add = fun _ => Ax.Un.a := rfl
   rw [this, List.map_const']
   rfl
  ·have := h.2.2.2.1
   have : s.f3.length ≠ 0 := fun e => this (List.length_eq_zero_iff.1 e)
   omega
 ·have e : sizeI s = s.f1 := if_neg (by omega)
  rw [us_cut h.1, e, List.map_replicate, h.1]
  exact ⟨rfl, h.2.1, .inr (.inr rfl)⟩
def kindO : Option S95 → Int
 | none => -1
 | some q => q.f0
theorem ax_last {acc : List S121} (h : 0 < acc.length) : ∃ o x, acc = o ++ [x] ∧ rd_T121 acc ((acc.length : Int) - 1) = x := by
 refine ⟨acc.dropLast, acc.getLast (fun h' => by rw [h'] at h; cases h), (List.dropLast_concat_getLast _).symm, ?_⟩
 rw [show (acc.length : Int) - 1 = ((acc.length - 1 : Nat) : Int) by omega]
 simp only [rd_T121, Int.toNat_natCast, List.getD_eq_getElem?_getD, List.getElem?_eq_getElem (show acc.length - 1 < acc.length by omega), Option.getD_some, List.getLast_eq_getElem]
theorem ax_ex_mem (o : List S121) (x : S121) : x.f1.toNat ≤ (Ax.ex (o ++ [x])).length := by
 rw [Ax.ex_app, Ax.ex_one, List.length_append, List.length_replicate]
 omega
theorem axF_spec : ∀ (d : List S95) (p : Option S95) (acc : List S121), (∀ s ∈ d, StepOK s) → ordOK p d → Ax.Fn (-1) acc → Ax.lk (-1) acc = kindO p → (acc = [] → p = none) → (Ax.ex acc).length + (units d).length ≤ 1073741824 →
  Ax.Fn (-1) (axF acc d) ∧ Ax.ex (axF acc d) = Ax.ex acc ++ (units d).map kd
 | [], p, acc, _, _, hf, _, _, _ => ⟨hf, by simp [axF, units_nil]⟩
 | s :: d, p, acc, hok, ho, hf, hk, hn, hl => by
  have hs := hok s List.mem_cons_self
  obtain ⟨u1, u2, u3⟩ := us_kd hs
  have ul : (us s).length = (sizeI s).toNat := by
   have := congrArg List.length u1
   simpa using this
  rw [units_cons, List.length_append] at hl
  rw [units_cons, List.map_append, u1, axF]
  have step : Ax.Fn (-1) (axS acc s) ∧ Ax.ex (axS acc s) = Ax.ex acc ++ List.replicate (sizeI s).toNat (Ax.un s.f0) ∧ Ax.lk (-1) (axS acc s) = s.f0 ∧ axS acc s ≠ [] := by
   unfold axS
   split
   ·rename_i c
    obtain ⟨c0, c1, c2⟩ := c
    obtain ⟨o, x, e, ex_⟩ := ax_last c1
    have em := ax_ex_mem o x
    rw [← e] at em
    have esz : sizeI s = s.f1 := if_neg (by omega)
    rw [ex_] at c2 ⊢
    have hfx := hf
    rw [e, Ax.Fn.app] at hfx
    have hx1 := hfx.2.2.1
    have ew : wrap64 (x.f1 + s.f1) = x.f1 + s.f1 := w64 (by omega) (by omega)
    have es : acc.set (acc.length - 1) ⟨x.f0, wrap64 (x.f1 + s.f1)⟩ = o ++ [⟨x.f0, x.f1 + s.f1⟩] := by
     rw [ew, e, List.length_append, List.length_singleton, show o.length + 1 - 1 = o.length by omega, List.set_append_right _ _ (Nat.le_refl _)]
     simp
    rw [es]
    refine ⟨?_, ?_, ?_, by simp⟩
    ·rw [Ax.Fn.app]
     exact ⟨hfx.1, hfx.2.1, by show 1 ≤ x.f1 + s.f1; omega, hfx.2.2.2.1, hfx.2.2.2.2.1, trivial⟩
    ·rw [Ax.ex_app, Ax.ex_one, e, Ax.ex_app, Ax.ex_one, List.append_assoc, esz, c2, c0, show (x.f1 + s.f1).toNat = x.f1.toNat + s.f1.toNat by omega, List.replicate_append_replicate]
    ·rw [Ax.lk_app]
     show x.f0 = s.f0
     omega
   ·rename_i c
    refine ⟨?_, ?_, ?_, by simp⟩
    ·rw [Ax.Fn.app]
     refine ⟨hf, u3, u2, ?_, ?_, trivial⟩
     ·rw [hk]
      intro e
      cases p with
      | none => exact absurd (show s.f0 = -1 from e) (by rcases u3 with h | h | h <;> omega)
      | some q =>
       have hq := ho.1 q rfl
       have e' : s.f0 = q.f0 := e
       by_cases c0 : s.f0 = 0
       ·have hne : 0 < acc.length := by
         cases acc with
         | nil => exact absurd (hn rfl) (by simp)
         | cons y l => simp
        obtain ⟨o, x, ee, ex_⟩ := ax_last hne
        refine c ⟨c0, hne, ?_⟩
        rw [ex_]
        rw [ee, Ax.lk_app] at hk
        have hk' : x.f0 = q.f0 := hk
        omega
       ·exact hq.1 ⟨e'.symm, .inl c0⟩
     ·rw [hk]
      rintro ⟨e1, e2⟩
      cases p with
      | none => exact absurd (show (-1 : Int) = 2 from e1) (by decide)
      | some q => exact (ho.1 q rfl).2 ⟨e1, e2⟩
    ·rw [Ax.ex_app, Ax.ex_one]
    ·rw [Ax.lk_app]
     rfl
  obtain ⟨s1, s2, s3, s4⟩ := step
  obtain ⟨r1, r2⟩ := axF_spec d (some s) (axS acc s) (fun x hx => hok x (List.mem_cons_of_mem _ hx)) ho.2 s1 s3 (fun e => absurd e s4) (by rw [s2, List.length_append, List.length_replicate]; omega)
  exact ⟨r1, by rw [r2, s2, List.append_assoc]⟩
theorem axis_ev (d : List S95) (hs : DSm d) (h : DOK d) (hl : (units d).length ≤ 1073741824) : ∃ a, Ev (fun k => delta_Axis.f k d) (a, 0) ∧ Ax.Fn (-1) a ∧ Ax.ex a = (units d).map kd := by
 obtain ⟨r, e, hr⟩ := check_ev d hs
 obtain rfl := hr.2 h
 have sp := axF_spec d none [] h.ok h.ord trivial rfl (fun _ => rfl) (by simp [Ax.ex_nil]; exact hl)
 refine ⟨axF [] d, ?_, sp.1, by rw [sp.2]; simp [Ax.ex_nil]⟩
 refine Ev.congr (fun k => by unfold delta_Axis.f; rfl) (Ev.bind e (Ev.congr (fun k => by rw [if_pos rfl]) ?_))
 simpa using axis_l0 d hs.1 d.length 0 [] (by omega) (by simp)
def posK : List Ax.Un → Nat → Option Nat
 | [], _ => none
 | .a :: u, p => (posK u p).map (· + 1)
 | .k :: _, 0 => some 0
 | .k :: u, p + 1 => (posK u p).map (· + 1)
 | .c :: _, 0 => none
 | .c :: u, p + 1 => posK u p
theorem posK_a (u : List Ax.Un) (p : Nat) : ∀ n : Nat, posK (List.replicate n .a ++ u) p = (posK u p).map (· + n)
 | 0 => by simp
 | n + 1 => by
  rw [List.replicate_succ, List.cons_append, posK, posK_a u p n, Option.map_map]
  congr 1
theorem posK_k (u : List Ax.Un) : ∀ (n p : Nat), posK (List.replicate n .k ++ u) p = if p < n then some p else (posK u (p - n)).map (· + n)
 | 0, p => by simp
 | n + 1, 0 => by rw [List.replicate_succ, List.cons_append, posK, if_pos (by omega)]
 | n + 1, p + 1 => by
  rw [List.replicate_succ, List.cons_append, posK, posK_k u n p]
  by_cases c : p < n
  ·rw [if_pos c, if_pos (by omega)]; rfl
  ·rw [if_neg c, if_neg (by omega), Option.map_map, show p + 1 - (n + 1) = p - n by omega]
   congr 1
theorem posK_c (u : List Ax.Un) : ∀ (n p : Nat), posK (List.replicate n .c ++ u) p = if p < n then none else posK u (p - n)
 | 0, p => by simp
 | n + 1, 0 => by rw [List.replicate_succ, List.cons_append, posK, if_pos (by omega)]
 | n + 1, p + 1 => by
  rw [List.replicate_succ, List.cons_append, posK, posK_c u n p, show p + 1 - (n + 1) = p - n by omega]
  by_cases c : p < n
  ·rw [if_pos c, if_pos (by omega)]
  ·rw [if_neg c, if_neg (by omega)]
def placeO (t : Int) : Option Nat → Int
 | none => -1
 | some j => t + j
theorem place_pos : ∀ (l : List S121) (f t : Int) (p : Nat), Ax.Pos l → Ax.placeS l f t (f + p) = placeO t (posK (Ax.ex l) p)
 | [], f, t, p, _ => by rw [Ax.placeS, Ax.ex_nil, posK]; rfl
 | s :: l, f, t, p, h => by
  obtain ⟨hk, h1⟩ := h.head
  obtain ⟨n, hn⟩ : ∃ n : Nat, s.f1 = n := ⟨s.f1.toNat, by omega⟩
  rw [Ax.placeS, Ax.ex_cons, hn, Int.toNat_natCast]
  rcases hk with e | e | e
  ·rw [e, if_neg (by omega), if_pos rfl, Ax.un0 rfl, posK_k]
   by_cases c : p < n
   ·rw [if_pos (by omega), if_pos c, placeO]; omega
   ·rw [if_neg (by omega), if_neg c]
    have ih := place_pos l (f + n) (t + n) (p - n) h.tail
    rw [show f + (n : Int) + ((p - n : Nat) : Int) = f + p by omega] at ih
    rw [ih]
    cases posK (Ax.ex l) (p - n) with
    | none => rfl
    | some j => show t + (n : Int) + j = t + ((j + n : Nat) : Int); omega
  ·rw [e, if_pos rfl, Ax.un1 rfl, posK_a, place_pos l f (t + n) p h.tail]
   cases posK (Ax.ex l) p with
   | none => rfl
   | some j => show t + (n : Int) + j = t + ((j + n : Nat) : Int); omega
  ·rw [e, if_neg (by omega), if_neg (by omega), Ax.un2 rfl, posK_c]
   by_cases c : p < n
   ·rw [if_pos (by omega), if_pos c]; rfl
   ·rw [if_neg (by omega), if_neg c]
    have ih := place_pos l (f + n) t (p - n) h.tail
    rw [show f + (n : Int) + ((p - n : Nat) : Int) = f + p by omega] at ih
    exact ih
theorem run_from : ∀ (u : List Un) (f : List S26) (j : Nat) (y : S26), nold u = f.length → (run f u).1[j]? = some y → .add y ∈ u ∨ ∃ (p : Nat) (h : p < f.length) (t : List S91), posK (u.map kd) p = some j ∧ y = app t f[p]
 | [], f, j, y, _, h => by simp [run] at h
 | .add x :: u, f, 0, y, hn, h => by
  rw [run] at h
  simp at h
  exact .inl (by rw [h]; exact List.mem_cons_self)
 | .add x :: u, f, j + 1, y, hn, h => by
  rw [run] at h
  rcases run_from u f j y hn (by simpa using h) with h | ⟨p, hp, t, e, e2⟩
  ·exact .inl (List.mem_cons_of_mem _ h)
  ·exact .inr ⟨p, hp, t, by rw [List.map_cons, kd, posK, e]; rfl, e2⟩
 | .keep t :: u, [], j, y, hn, h => by simp [nold] at hn
 | .cut :: u, [], j, y, hn, h => by simp [nold] at hn
 | .keep t :: u, x :: f, 0, y, hn, h => by
  rw [run] at h
  simp at h
  exact .inr ⟨0, by simp, t, by rw [List.map_cons, kd, posK], by rw [← h]; rfl⟩
 | .keep t :: u, x :: f, j + 1, y, hn, h => by
  rw [run] at h
  rcases run_from u f j y (by simpa [nold] using hn) (by simpa using h) with h | ⟨p, hp, t', e, e2⟩
  ·exact .inl (List.mem_cons_of_mem _ h)
  ·exact .inr ⟨p + 1, by simpa using hp, t', by rw [List.map_cons, kd, posK, e]; rfl, by rw [e2]; rfl⟩
 | .cut :: u, x :: f, j, y, hn, h => by
  rw [run] at h
  rcases run_from u f j y (by simpa [nold] using hn) h with h | ⟨p, hp, t', e, e2⟩
  ·exact .inl (List.mem_cons_of_mem _ h)
  ·exact .inr ⟨p + 1, by simpa using hp, t', by rw [List.map_cons, kd, posK, e], by rw [e2]; rfl⟩
theorem posK_mono : ∀ (u : List Ax.Un) (p q i j : Nat), p < q → posK u p = some i → posK u q = some j → i < j
 | [], p, q, i, j, _, h, _ => by cases h
 | .a :: u, p, q, i, j, hpq, h, k => by
  rw [posK, Option.map_eq_some_iff] at h k
  obtain ⟨i', h, rfl⟩ := h
  obtain ⟨j', k, rfl⟩ := k
  have := posK_mono u p q i' j' hpq h k
  omega
 | .k :: u, 0, q + 1, i, j, hpq, h, k => by
  rw [posK, Option.map_eq_some_iff] at k
  rw [posK] at h
  obtain ⟨j', k, rfl⟩ := k
  injection h with h
  omega
 | .k :: u, p + 1, q + 1, i, j, hpq, h, k => by
  rw [posK, Option.map_eq_some_iff] at h k
  obtain ⟨i', h, rfl⟩ := h
  obtain ⟨j', k, rfl⟩ := k
  have := posK_mono u p q i' j' (by omega) h k
  omega
 | .c :: u, 0, q + 1, i, j, hpq, h, k => by rw [posK] at h; cases h
 | .c :: u, p + 1, q + 1, i, j, hpq, h, k => by
  rw [posK] at h k
  exact posK_mono u p q i j (by omega) h k
theorem add_run {x : S26} : ∀ (u : List Un) (f : List S26), .add x ∈ u → x ∈ (run f u).1
 | [], f, h => by cases h
 | .add y :: u, f, h => by
  rw [run]
  rcases List.mem_cons.1 h with h | h
  ·injection h with h
   rw [h]; exact List.mem_cons_self
  ·exact List.mem_cons_of_mem _ (add_run u f h)
 | .keep t :: u, [], h => by rw [run]; exact add_run u [] (by simpa using h)
 | .cut :: u, [], h => by rw [run]; exact add_run u [] (by simpa using h)
 | .keep t :: u, y :: f, h => by rw [run]; exact List.mem_cons_of_mem _ (add_run u f (by simpa using h))
 | .cut :: u, y :: f, h => by rw [run]; exact add_run u f (by simpa using h)
theorem E.adds {u v : List Un} (h : E u v) {x : S26} (hx : .add x ∈ u) : .add x ∈ v := by
 have h1 := add_run u (List.replicate (nold u) ⟨x.f0 + 1, 0, []⟩) hx
 rw [h.run] at h1
 obtain ⟨j, hj, e⟩ := List.mem_iff_getElem.1 h1
 rcases run_from v (List.replicate (nold u) ⟨x.f0 + 1, 0, []⟩) j x (by rw [List.length_replicate]; exact h.old.symm) (by rw [List.getElem?_eq_getElem hj, e]) with h2 | ⟨p, hp, t, _, e2⟩
 ·exact h2
 ·rw [List.getElem_replicate] at e2
  have h3 : x.f0 = x.f0 + 1 := congrArg S26.f0 e2
  omega
theorem act_adds {x : S26} : ∀ (As : List (List S26)) (Cs : List Bool) (Ts : List (List S91)), .add x ∈ actU As Cs Ts → ∃ a ∈ As, x ∈ a
 | [], Cs, Ts, h => by simp [actU] at h
 | a :: As, [], Ts, h => by
  rw [actU, List.mem_map] at h
  obtain ⟨y, hy, e⟩ := h
  injection e with e
  exact ⟨a, List.mem_cons_self, e ▸ hy⟩
 | a :: As, c :: Cs, [], h => by simp [actU] at h
 | a :: As, c :: Cs, t :: Ts, h => by
  rw [actU, List.mem_append, List.mem_append] at h
  rcases h with (h | h) | h
  ·rw [List.mem_map] at h
   obtain ⟨y, hy, e⟩ := h
   injection e with e
   exact ⟨a, List.mem_cons_self, e ▸ hy⟩
  ·cases c <;> simp at h
  ·obtain ⟨b, hb, hx⟩ := act_adds As Cs Ts h
   exact ⟨b, List.mem_cons_of_mem _ hb, hx⟩
theorem ChOK.adds {name : ByteArray} {n : Nat} {o : List S95} (h : ChOK name n o) {x : S26} (hx : .add x ∈ units o) : 65 ≤ x.f0 ∧ x.f0 ≤ 90 := by
 obtain ⟨As, Cs, Ts, eu, h1, h2, h3, h4, h5⟩ := h.ex
 obtain ⟨a, ha, hxa⟩ := act_adds As Cs Ts (eu.adds hx)
 exact ((h4 a ha).2 x hxa).2.2.2.2
end Go.Proofs.Ytlcodfjlbhjkbaa.PDelta
end
section
namespace Go.Proofs.Ytlcodfjlbhjkbaa.PDelta
open Go.RowKit Go.Proofs.YtlcodfjlbhjkbaaW.PrintWords Go.Proofs.YtlcodfjlbhjkbaaW.PrintLast Go.Proofs.YtlcodfjlbhjkbaaW.PrintMore
attribute [local go_sem] max2_int min2_int max_two min_two max_three min_three max_four min_four
attribute [local go_sem high] Go.Proofs.Ytlcodfjlbhjkbaa.Ord.leq_str Go.Proofs.Ytlcodfjlbhjkbaa.Ord.gtr_str Go.Proofs.Ytlcodfjlbhjkbaa.Ord.geq_str
noncomputable section
attribute [local go_sem high] eqA121
end
end Go.Proofs.Ytlcodfjlbhjkbaa.PDelta
end
section
namespace Go.Proofs.Ytlcodfjlbhjkbaa.PDelta
open Go.RowKit Go.Proofs.YtlcodfjlbhjkbaaW.PrintWords Go.Proofs.YtlcodfjlbhjkbaaW.PrintLast Go.Proofs.YtlcodfjlbhjkbaaW.PrintMore
attribute [local go_sem] max2_int min2_int max_two min_two max_three min_three max_four min_four
attribute [local go_sem high] Go.Proofs.Ytlcodfjlbhjkbaa.Ord.leq_str Go.Proofs.Ytlcodfjlbhjkbaa.Ord.gtr_str Go.Proofs.Ytlcodfjlbhjkbaa.Ord.geq_str
noncomputable section
end
end Go.Proofs.Ytlcodfjlbhjkbaa.PDelta
end
section
namespace Go.Proofs.Ytlcodfjlbhjkbaa.PDelta
open Go.RowKit Go.Proofs.YtlcodfjlbhjkbaaW.PrintWords Go.Proofs.YtlcodfjlbhjkbaaW.PrintLast Go.Proofs.YtlcodfjlbhjkbaaW.PrintMore
def abc (n : Nat) : List S26 := (List.range n).map fun (i : Nat) => (⟨97 + (i : Int), 0, []⟩ : S26)
theorem abc_len (n : Nat) : (abc n).length = n := by simp [abc]
theorem abc_succ (n : Nat) : abc (n + 1) = abc n ++ [⟨97 + (n : Int), 0, []⟩] := by simp [abc, List.range_succ]
theorem abc_get {n i : Nat} (h : i < (abc n).length) : (abc n)[i] = ⟨97 + (i : Int), 0, []⟩ := by simp [abc]
theorem abc_ok {n : Nat} (hn : n ≤ 26) : POK (abc n) := pok_mem.2 (fun x hx => by
 simp only [abc, List.mem_map, List.mem_range] at hx
 obtain ⟨i, hi, rfl⟩ := hx
 exact ⟨.inr ⟨rfl, by unfold CharOK; simp only; omega⟩, va_nil false⟩)
theorem abc_lb (n : Nat) (hn : n ≤ 26) : LB 1073741824 (abc n) := ⟨by rw [abc_len]; omega, fun x hx => by
 simp only [abc, List.mem_map, List.mem_range] at hx
 obtain ⟨i, hi, rfl⟩ := hx
 simp⟩
theorem x_ok : NmOK (⟨#[120]⟩ : ByteArray) := by
 refine ⟨⟨by decide, by decide, fun i h0 h1 => ?_⟩, ⟨by decide, by decide, fun i h0 h1 => ?_⟩, by decide +kernel⟩
 ·have : i = 0 := by have : (⟨#[120]⟩ : ByteArray).size = 1 := rfl; omega
  subst this
  exact .inl (by decide)
 ·have : i = 0 := by have : (⟨#[120]⟩ : ByteArray).size = 1 := rfl; omega
  subst this
  decide
theorem bef_kd : ∀ u : List Un, Ax.bef (u.map kd) = nold u
 | [] => rfl
 | .add x :: u => by rw [List.map_cons, kd, Ax.bef_a, nold, bef_kd u]
 | .keep t :: u => by rw [List.map_cons, kd, Ax.bef_k, nold, bef_kd u]
 | .cut :: u => by rw [List.map_cons, kd, Ax.bef_c, nold, bef_kd u]
structure Chg (n : Nat) (raw : List Int) (o : List S95) (a : List S121) : Prop where
 ch : chancerykeep1_change.f (n : Int) raw (⟨#[120]⟩ : ByteArray) = some o
 ok : ChOK (⟨#[120]⟩ : ByteArray) n o
 apply : Ev (fun k => delta_Apply.f k (abc n) o) ((run (abc n) (units o)).1, 0)
 axis : Ev (fun k => delta_Axis.f k o) (a, 0)
 fn : Ax.Fn (-1) a
 ex : Ax.ex a = (units o).map kd
 bef : Ax.bef (Ax.ex a) = n
 small : (units o).length ≤ 80
 glen : (run (abc n) (units o)).1.length ≤ 80
theorem chg_ev (n : Nat) (raw : List Int) (hn : n ≤ 26) : ∃ o a, Chg n raw o a := by
 obtain ⟨o, he, hc⟩ := change_ev n raw x_ok (by omega)
 have hcn := hc.counts
 have hdok := hc.fo.dok (by omega)
 have hdb := hc.fo.db (n := 1073741824) (by omega) (by omega)
 have hds := dsm hdok.ok hdb (by omega)
 have hnew := new_units hdok.ok
 have hnl := nnew_le (units o)
 obtain ⟨a, ha, fa, ea⟩ := axis_ev o hds hdok (by omega)
 have hol : old o = ((abc n).length : Int) := by rw [old_units hdok.ok, hcn.1, abc_len]
 refine ⟨o, a, ever_of he, hc, apply_ev (abc n) o (abc_ok hn) (abc_lb n hn) hdok hdb hol (by omega), ha, fa, ea, by rw [ea, bef_kd, hcn.1], by omega, ?_⟩
 rw [run_len (units o) (abc n) (by rw [hcn.1, abc_len])]
 omega
section
variable {n : Nat} {raw : List Int} {o : List S95} {a : List S121}
theorem Chg.exl (h : Chg n raw o a) : (Ax.ex a).length ≤ 80 := by have := h.small; rw [h.ex, List.length_map]; omega
theorem Chg.check (h : Chg n raw o a) : Ev (fun k => axis_Check.f k a) 0 := ⟨321, fun k hk => Ax.check_ok h.fn (by have := h.exl; omega) (by have := h.exl; omega)⟩
theorem Chg.lens (h : Chg n raw o a) : ∃ m : Int, Ev (fun k => axis_lengths.f k a) ((n : Int), m) := by
 refine ⟨((Ax.aft (Ax.ex a) : Nat) : Int), 81, fun k hk => ?_⟩
 show axis_lengths.f k a = _
 rw [Ax.lengths_ok h.fn (by have := h.exl; omega) (by have := h.exl; omega), h.bef]
def Chg.pl (a : List S121) (i : Nat) : Int := Ax.placeS a 0 0 (i : Int)
theorem Chg.pl_is (h : Chg n raw o a) (i : Nat) : Chg.pl a i = placeO 0 (posK ((units o).map kd) i) := by
 have := place_pos a 0 0 i (Ax.Fn.pos h.fn)
 rw [Int.zero_add, h.ex] at this
 exact this
end
end Go.Proofs.Ytlcodfjlbhjkbaa.PDelta
end

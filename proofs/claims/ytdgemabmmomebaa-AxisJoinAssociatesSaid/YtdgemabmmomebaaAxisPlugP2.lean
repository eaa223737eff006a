/- The contract of axis.Pair. -/
import Derived.Test.YtdgemabmmomebaaAxisPlugP1
namespace Go.Proofs.Ytdgemabmmomebaa.PAxis
open Go.RowKit Go.Proofs.YtdgemabmmomebaaW.PrintWords Go.Proofs.YtdgemabmmomebaaW.PrintLast Go.Proofs.YtdgemabmmomebaaW.PrintMore
attribute [local go_sem] max2_int min2_int max_two min_two
set_option linter.unusedVariables false
set_option linter.unusedSimpArgs false

theorem pst_new {w w4 : World} {A0 A1 : Option Addr} {c0 c1 : Nat} {l0 l1 : List S97} (hB : Below w.heap.size w w4) (hr0 : Kd.C k97 w A0 l0.length l0) (hc0 : l0.length ≤ c0) (hr1 : Kd.C k97 w A1 l1.length l1) (hc1 : l1.length ≤ c1) :
    PSt w w4.heap.size (w4.heap.size + 1) (w4.heap.size + 1 + 1) (w4.heap.size + 1 + 1 + 1) l0 0 l1 0 ⟨[], 0, 0⟩ ⟨[], 0, 0⟩ ((((w4.alloc (Obj.cells #[Value.slice none 0 0, Value.int IntKind.i64 0, Value.int IntKind.i64 0] 107 (0, 0))).alloc (Obj.cells #[Value.slice none 0 0, Value.int IntKind.i64 0, Value.int IntKind.i64 0] 107 (0, 0))).alloc (Obj.cells #[Value.slice A0 l0.length c0, Value.int IntKind.i64 0] 110 (0, 0))).alloc (Obj.cells #[Value.slice A1 l1.length c1, Value.int IntKind.i64 0] 110 (0, 0))) := by
  have hs := hB.size
  have e1 : (w4.alloc (Obj.cells #[Value.slice none 0 0, Value.int IntKind.i64 0, Value.int IntKind.i64 0] 107 (0, 0))).heap[w4.heap.size]? = some (Obj.cells #[Value.slice none 0 0, Value.int IntKind.i64 0, Value.int IntKind.i64 0] 107 (0, 0)) := blk_new w4 _
  have e2 : ((w4.alloc (Obj.cells #[Value.slice none 0 0, Value.int IntKind.i64 0, Value.int IntKind.i64 0] 107 (0, 0))).alloc (Obj.cells #[Value.slice none 0 0, Value.int IntKind.i64 0, Value.int IntKind.i64 0] 107 (0, 0))).heap[w4.heap.size + 1]? = some (Obj.cells #[Value.slice none 0 0, Value.int IntKind.i64 0, Value.int IntKind.i64 0] 107 (0, 0)) := by
    have := blk_new (w4.alloc (Obj.cells #[Value.slice none 0 0, Value.int IntKind.i64 0, Value.int IntKind.i64 0] 107 (0, 0))) (Obj.cells #[Value.slice none 0 0, Value.int IntKind.i64 0, Value.int IntKind.i64 0] 107 (0, 0))
    rwa [Go.Deep.nblk_alloc] at this
  have e3 : (((w4.alloc (Obj.cells #[Value.slice none 0 0, Value.int IntKind.i64 0, Value.int IntKind.i64 0] 107 (0, 0))).alloc (Obj.cells #[Value.slice none 0 0, Value.int IntKind.i64 0, Value.int IntKind.i64 0] 107 (0, 0))).alloc (Obj.cells #[Value.slice A0 l0.length c0, Value.int IntKind.i64 0] 110 (0, 0))).heap[w4.heap.size + 1 + 1]? = some (Obj.cells #[Value.slice A0 l0.length c0, Value.int IntKind.i64 0] 110 (0, 0)) := by
    have := blk_new ((w4.alloc (Obj.cells #[Value.slice none 0 0, Value.int IntKind.i64 0, Value.int IntKind.i64 0] 107 (0, 0))).alloc (Obj.cells #[Value.slice none 0 0, Value.int IntKind.i64 0, Value.int IntKind.i64 0] 107 (0, 0))) (Obj.cells #[Value.slice A0 l0.length c0, Value.int IntKind.i64 0] 110 (0, 0))
    rwa [Go.Deep.nblk_alloc, Go.Deep.nblk_alloc] at this
  have e4 : ((((w4.alloc (Obj.cells #[Value.slice none 0 0, Value.int IntKind.i64 0, Value.int IntKind.i64 0] 107 (0, 0))).alloc (Obj.cells #[Value.slice none 0 0, Value.int IntKind.i64 0, Value.int IntKind.i64 0] 107 (0, 0))).alloc (Obj.cells #[Value.slice A0 l0.length c0, Value.int IntKind.i64 0] 110 (0, 0))).alloc (Obj.cells #[Value.slice A1 l1.length c1, Value.int IntKind.i64 0] 110 (0, 0))).heap[w4.heap.size + 1 + 1 + 1]? = some (Obj.cells #[Value.slice A1 l1.length c1, Value.int IntKind.i64 0] 110 (0, 0)) := by
    have := blk_new (((w4.alloc (Obj.cells #[Value.slice none 0 0, Value.int IntKind.i64 0, Value.int IntKind.i64 0] 107 (0, 0))).alloc (Obj.cells #[Value.slice none 0 0, Value.int IntKind.i64 0, Value.int IntKind.i64 0] 107 (0, 0))).alloc (Obj.cells #[Value.slice A0 l0.length c0, Value.int IntKind.i64 0] 110 (0, 0))) (Obj.cells #[Value.slice A1 l1.length c1, Value.int IntKind.i64 0] 110 (0, 0))
    rwa [Go.Deep.nblk_alloc, Go.Deep.nblk_alloc, Go.Deep.nblk_alloc] at this
  have hB4 : Below w.heap.size w ((((w4.alloc (Obj.cells #[Value.slice none 0 0, Value.int IntKind.i64 0, Value.int IntKind.i64 0] 107 (0, 0))).alloc (Obj.cells #[Value.slice none 0 0, Value.int IntKind.i64 0, Value.int IntKind.i64 0] 107 (0, 0))).alloc (Obj.cells #[Value.slice A0 l0.length c0, Value.int IntKind.i64 0] 110 (0, 0))).alloc (Obj.cells #[Value.slice A1 l1.length c1, Value.int IntKind.i64 0] 110 (0, 0))) := below_alloc (below_alloc (below_alloc (below_alloc hB _) _) _) _
  exact ⟨⟨.slice none 0 0, .slice none 0 0, ⟨blk_alloc (blk_alloc (blk_alloc e1 _) _) _, Kd.R_nil _ _ _ _ _, hB4, Moves.refl _ _ _⟩, ⟨blk_alloc (blk_alloc e2 _) _, Kd.R_nil _ _ _ _ _, hB4, Moves.refl _ _ _⟩, fun b hb => by cases hb⟩, ⟨A0, c0, blk_alloc e3 _, hr0, hc0⟩, ⟨A1, c1, e4, hr1, hc1⟩,
    by omega, by omega, by omega, by omega, by omega, by omega, hs, by omega, by omega, by omega⟩

set_option maxRecDepth 100000 in
set_option maxHeartbeats 16000000 in
theorem pair_calls (k : Nat) (A0 : Option Addr) (c0 : Nat) (l0 : List (S97)) (A1 : Option Addr) (c1 : Nat) (l1 : List (S97)) (r1 r2 : List (S97)) (r3 : Int) (w : World) (hr0 : Kd.C k97 w A0 l0.length l0) (hc0 : l0.length ≤ c0) (hr1 : Kd.C k97 w A1 l1.length l1) (hc1 : l1.length ≤ c1) (h : pairF k l0 l1 = some (r1, r2, r3)) :
    Calls Try.prog 37 #[.slice A0 l0.length c0, .slice A1 l1.length c1] w fun e w' => ∃ v0_ v1_ : Value, e = .returned (.tuple #[v0_, v1_, .int .i64 r3]) ∧ Kd.R k97 97 w' w.heap.size (fun k_ => some k_ ≠ (v1_ : Value).ownBlock) v0_ r1 ∧ Kd.R k97 97 w' w.heap.size (fun k_ => some k_ ≠ (v0_ : Value).ownBlock) v1_ r2 ∧ Below w.heap.size w w' := by
  have hu97 := Try.underlying97
  have hu107 := Try.underlying107
  have hu110 := Try.underlying110
  have HR0 := Aside0.mk hr0
  have HC0 := Aside0.mk hc0
  have HR1 := Aside0.mk hr1
  have HC1 := Aside0.mk hc1
  clear hr0 hr1 hc0 hc1
  rw [pairF] at h
  replace h := Option.bind_eq_some_iff.1 h
  obtain ⟨e, he, h⟩ := h
  have HE := Aside0.mk he
  clear he
  by_cases d1 : e ≠ 0
  · rw [if_pos d1] at h
    have d1b : (e != 0) = true := bne_iff_ne.mpr d1
    simp only [Option.some.injEq, Prod.mk.injEq] at h
    obtain ⟨rfl, rfl, rfl⟩ := h
    clear d1
    go_enter Try.func37, Try.ntmps37
    go_wp2_with (go_at_call 72; (with_reducible refine (axis_Check.calls k _ _ l0 e _ HR0.out HC0.out HE.out).mono ?_); rintro e1 w1 ⟨rfl, hb⟩; have HB1 := Aside0.mk hb; clear hb)
    first | go_ret3 | go_ret | go_ret2
    exact ⟨_, _, rfl, Kd.R_nil _ _ _ _ _, Kd.R_nil _ _ _ _ _, HB1.out⟩
  rw [if_neg d1] at h
  have d1b : (e != 0) = false := by simpa using d1
  clear d1
  replace h := Option.bind_eq_some_iff.1 h
  obtain ⟨e', he', h⟩ := h
  have HE' := Aside0.mk he'
  clear he'
  by_cases d2 : e' ≠ 0
  · rw [if_pos d2] at h
    have d2b : (e' != 0) = true := bne_iff_ne.mpr d2
    simp only [Option.some.injEq, Prod.mk.injEq] at h
    obtain ⟨rfl, rfl, rfl⟩ := h
    clear d2
    go_enter Try.func37, Try.ntmps37
    go_wp2_with (go_at_call 72; (with_reducible refine (axis_Check.calls k _ _ l0 e _ HR0.out HC0.out HE.out).mono ?_); rintro e1 w1 ⟨rfl, hb⟩; have HB1 := Aside0.mk hb; clear hb)
    go_wp2_with (go_at_call 72; (with_reducible refine (axis_Check.calls k _ _ l1 e' _ (Kd.C_below HR1.out HB1.out) HC1.out HE'.out).mono ?_); rintro e1 w2 ⟨rfl, hb⟩; have HB2 := Aside0.mk (below_step HB1.out hb); clear hb)
    first | go_ret3 | go_ret | go_ret2
    exact ⟨_, _, rfl, Kd.R_nil _ _ _ _ _, Kd.R_nil _ _ _ _ _, HB2.out⟩
  rw [if_neg d2] at h
  have d2b : (e' != 0) = false := by simpa using d2
  clear d2
  replace h := Option.bind_eq_some_iff.1 h
  obtain ⟨⟨x1, x2⟩, hx, h⟩ := h
  have HX := Aside0.mk hx
  replace h := Option.bind_eq_some_iff.1 h
  obtain ⟨⟨y1, y2⟩, hy, h⟩ := h
  have HY := Aside0.mk hy
  clear hx hy
  by_cases d3 : x1 ≠ y1
  · rw [if_pos d3] at h
    have d3b : (x1 != y1) = true := bne_iff_ne.mpr d3
    simp only [Option.some.injEq, Prod.mk.injEq] at h
    obtain ⟨rfl, rfl, rfl⟩ := h
    clear d3
    go_enter Try.func37, Try.ntmps37
    go_wp2_with (go_at_call 72; (with_reducible refine (axis_Check.calls k _ _ l0 e _ HR0.out HC0.out HE.out).mono ?_); rintro e1 w1 ⟨rfl, hb⟩; have HB1 := Aside0.mk hb; clear hb)
    go_wp2_with (go_at_call 72; (with_reducible refine (axis_Check.calls k _ _ l1 e' _ (Kd.C_below HR1.out HB1.out) HC1.out HE'.out).mono ?_); rintro e1 w2 ⟨rfl, hb⟩; have HB2 := Aside0.mk (below_step HB1.out hb); clear hb)
    go_wp2_with (go_at_call 73; (with_reducible refine (axis_lengths.calls k _ _ l0 x1 x2 _ (Kd.C_below HR0.out HB2.out) HC0.out HX.out).mono ?_); rintro e1 w3 ⟨rfl, hb⟩; have HB3 := Aside0.mk (below_step HB2.out hb); clear hb)
    go_wp2_with (go_at_call 73; (with_reducible refine (axis_lengths.calls k _ _ l1 y1 y2 _ (Kd.C_below HR1.out HB3.out) HC1.out HY.out).mono ?_); rintro e1 w4 ⟨rfl, hb⟩; have HB4 := Aside0.mk (below_step HB3.out hb); clear hb)
    first | go_ret3 | go_ret | go_ret2
    exact ⟨_, _, rfl, Kd.R_nil _ _ _ _ _, Kd.R_nil _ _ _ _ _, HB4.out⟩
  rw [if_neg d3] at h
  have d3b : (x1 != y1) = false := by simpa using d3
  clear d3
  replace h := Option.bind_eq_some_iff.1 h
  obtain ⟨⟨s, t⟩, hs, h⟩ := h
  have HS := Aside0.mk hs
  by_cases d4 : 4398046511104 < s.out.length ∨ 4398046511104 < t.out.length
  · rw [if_pos d4] at h
    cases h
  rw [if_neg d4, dones] at h
  replace h := Option.bind_eq_some_iff.1 h
  obtain ⟨⟨u1, u2⟩, hu, h⟩ := h
  replace h := Option.bind_eq_some_iff.1 h
  obtain ⟨⟨v1, v2⟩, hv, h⟩ := h
  have HU := Aside0.mk hu
  have HV := Aside0.mk hv
  have HD := Aside0.mk h
  clear h hs d4 hu hv
  go_enter Try.func37, Try.ntmps37
  go_wp2_with (go_at_call 72; (with_reducible refine (axis_Check.calls k _ _ l0 e _ HR0.out HC0.out HE.out).mono ?_); rintro e1 w1 ⟨rfl, hb⟩; have HB1 := Aside0.mk hb; clear hb)
  go_wp2_with (go_at_call 72; (with_reducible refine (axis_Check.calls k _ _ l1 e' _ (Kd.C_below HR1.out HB1.out) HC1.out HE'.out).mono ?_); rintro e1 w2 ⟨rfl, hb⟩; have HB2 := Aside0.mk (below_step HB1.out hb); clear hb)
  go_wp2_with (go_at_call 73; (with_reducible refine (axis_lengths.calls k _ _ l0 x1 x2 _ (Kd.C_below HR0.out HB2.out) HC0.out HX.out).mono ?_); rintro e1 w3 ⟨rfl, hb⟩; have HB3 := Aside0.mk (below_step HB2.out hb); clear hb)
  go_wp2_with (go_at_call 73; (with_reducible refine (axis_lengths.calls k _ _ l1 y1 y2 _ (Kd.C_below HR1.out HB3.out) HC1.out HY.out).mono ?_); rintro e1 w4 ⟨rfl, hb⟩; have HB4 := Aside0.mk (below_step HB3.out hb); clear hb)
  have hJ0 : PSt w w4.heap.size (w4.heap.size + 1) (w4.heap.size + 1 + 1) (w4.heap.size + 1 + 1 + 1) l0 0 l1 0 ⟨[], 0, 0⟩ ⟨[], 0, 0⟩ ((((w4.alloc (Obj.cells #[Value.slice none 0 0, Value.int IntKind.i64 0, Value.int IntKind.i64 0] 107 (0, 0))).alloc (Obj.cells #[Value.slice none 0 0, Value.int IntKind.i64 0, Value.int IntKind.i64 0] 107 (0, 0))).alloc (Obj.cells #[Value.slice A0 l0.length c0, Value.int IntKind.i64 0] 110 (0, 0))).alloc (Obj.cells #[Value.slice A1 l1.length c1, Value.int IntKind.i64 0] 110 (0, 0))) := pst_new HB4.out HR0.out HC0.out HR1.out HC1.out
  have HJ0 := Aside0.mk hJ0
  clear hJ0
  obtain ⟨gx, hgx⟩ : ∃ g, g = w4.heap.size := ⟨_, rfl⟩
  obtain ⟨gy, hgy⟩ : ∃ g, g = w4.heap.size + 1 := ⟨_, rfl⟩
  obtain ⟨gp, hgp⟩ : ∃ g, g = w4.heap.size + 1 + 1 := ⟨_, rfl⟩
  obtain ⟨gq, hgq⟩ : ∃ g, g = w4.heap.size + 1 + 1 + 1 := ⟨_, rfl⟩
  rw [← hgq, ← hgp, ← hgy, ← hgx] at HJ0
  rw [← hgq, ← hgp, ← hgy, ← hgx]
  clear hgx hgy hgp hgq
  go_loopg [] k (fun m wr => ∃ (a : List S97) (ua : Int) (b : List S97) (ub : Int) (z y : WS), Aside0 (PSt w gx gy gp gq a ua b ub z y wr) ∧ Aside0 (pairL m a ua b ub z y = some (s, t)))
  case atStart => exact ⟨l0, 0, l1, 0, ⟨[], 0, 0⟩, ⟨[], 0, 0⟩, HJ0, HS⟩
  case round =>
    clear HJ0 HS
    obtain ⟨a, ua, b, ub, z, y, HJ, HL⟩ := hrel
    obtain ⟨gl, rfl⟩ : ∃ gl, gk = gl + 1 := by
      cases gk with
      | zero => exact absurd HL.out (by simp [pairL])
      | succ n => exact ⟨n, rfl⟩
    have hL := HL.out
    rw [pairL] at hL
    by_cases d5 : 4398046511104 < z.out.length ∨ 4398046511104 < y.out.length
    · rw [if_pos d5] at hL
      cases hL
    rw [if_neg d5] at hL
    have HZ := Aside0.mk (show (z.out.length + 3) * 16 ≤ 140737488355328 by omega)
    have HY2 := Aside0.mk (show (y.out.length + 3) * 16 ≤ 140737488355328 by omega)
    clear d5 HL
    by_cases d6 : 0 ≤ kindL a ∨ 0 ≤ kindL b
    rotate_left
    · rw [if_neg d6] at hL
      have f1 : decide (0 ≤ kindL a) = false := decide_eq_false (fun h => d6 (.inl h))
      have f2 : decide (0 ≤ kindL b) = false := decide_eq_false (fun h => d6 (.inr h))
      injection hL with hL
      injection hL with hL1 hL2
      subst hL1 hL2
      clear d6
      have hD := HD.out
      clear HD
      by_cases d7 : u2 ≠ 0
      · rw [if_pos d7] at hD
        have d7b : (u2 != 0) = true := bne_iff_ne.mpr d7
        simp only [Option.some.injEq, Prod.mk.injEq] at hD
        obtain ⟨rfl, rfl, rfl⟩ := hD
        clear d7
        go_wp2_with (first | (go_at_call 74; (with_reducible refine HJ.out.kind_p.mono ?_); rintro e1 w5 ⟨rfl, rfl⟩) | (go_at_call 74; (with_reducible refine HJ.out.kind_q.mono ?_); rintro e1 w5 ⟨rfl, rfl⟩) | (go_at_call 78; (with_reducible refine (HJ.out.done_x k u1 u2 HZ.out HU.out).mono ?_); rintro e1 w7 ⟨vx, rfl, hX⟩; obtain ⟨A7, n7, hv7⟩ := Kd.R_slice hX.1; subst hv7; have HXD := Aside0.mk hX; clear hX))
        go_wp2_with (go_at_call 78; (with_reducible refine (HXD.out.done_y HJ.out.ly k v1 v2 HY2.out HV.out).mono ?_); rintro e1 w8 ⟨vy, rfl, hF1, hF2, hF3⟩; obtain ⟨A8, n8, hv8⟩ := Kd.R_slice hF2; subst hv8; have HF1 := Aside0.mk hF1; have HF2 := Aside0.mk hF2; have HF3 := Aside0.mk hF3; clear hF1 hF2 hF3)
        first | go_ret3 | go_ret | go_ret2
        exact ⟨_, _, rfl, Kd.R_nil _ _ _ _ _, Kd.R_nil _ _ _ _ _, HF3.out⟩
      rw [if_neg d7] at hD
      have d7b : (u2 != 0) = false := by simpa using d7
      clear d7
      by_cases d8 : v2 ≠ 0
      · rw [if_pos d8] at hD
        have d8b : (v2 != 0) = true := bne_iff_ne.mpr d8
        simp only [Option.some.injEq, Prod.mk.injEq] at hD
        obtain ⟨rfl, rfl, rfl⟩ := hD
        clear d8
        go_wp2_with (first | (go_at_call 74; (with_reducible refine HJ.out.kind_p.mono ?_); rintro e1 w5 ⟨rfl, rfl⟩) | (go_at_call 74; (with_reducible refine HJ.out.kind_q.mono ?_); rintro e1 w5 ⟨rfl, rfl⟩) | (go_at_call 78; (with_reducible refine (HJ.out.done_x k u1 u2 HZ.out HU.out).mono ?_); rintro e1 w7 ⟨vx, rfl, hX⟩; obtain ⟨A7, n7, hv7⟩ := Kd.R_slice hX.1; subst hv7; have HXD := Aside0.mk hX; clear hX))
        go_wp2_with (go_at_call 78; (with_reducible refine (HXD.out.done_y HJ.out.ly k v1 v2 HY2.out HV.out).mono ?_); rintro e1 w8 ⟨vy, rfl, hF1, hF2, hF3⟩; obtain ⟨A8, n8, hv8⟩ := Kd.R_slice hF2; subst hv8; have HF1 := Aside0.mk hF1; have HF2 := Aside0.mk hF2; have HF3 := Aside0.mk hF3; clear hF1 hF2 hF3)
        first | go_ret3 | go_ret | go_ret2
        exact ⟨_, _, rfl, Kd.R_nil _ _ _ _ _, Kd.R_nil _ _ _ _ _, HF3.out⟩
      · rw [if_neg d8] at hD
        have d8b : (v2 != 0) = false := by simpa using d8
        simp only [Option.some.injEq, Prod.mk.injEq] at hD
        obtain ⟨rfl, rfl, rfl⟩ := hD
        clear d8
        go_wp2_with (first | (go_at_call 74; (with_reducible refine HJ.out.kind_p.mono ?_); rintro e1 w5 ⟨rfl, rfl⟩) | (go_at_call 74; (with_reducible refine HJ.out.kind_q.mono ?_); rintro e1 w5 ⟨rfl, rfl⟩) | (go_at_call 78; (with_reducible refine (HJ.out.done_x k u1 u2 HZ.out HU.out).mono ?_); rintro e1 w7 ⟨vx, rfl, hX⟩; obtain ⟨A7, n7, hv7⟩ := Kd.R_slice hX.1; subst hv7; have HXD := Aside0.mk hX; clear hX))
        go_wp2_with (go_at_call 78; (with_reducible refine (HXD.out.done_y HJ.out.ly k v1 v2 HY2.out HV.out).mono ?_); rintro e1 w8 ⟨vy, rfl, hF1, hF2, hF3⟩; obtain ⟨A8, n8, hv8⟩ := Kd.R_slice hF2; subst hv8; have HF1 := Aside0.mk hF1; have HF2 := Aside0.mk hF2; have HF3 := Aside0.mk hF3; clear hF1 hF2 hF3)
        first | go_ret3 | go_ret | go_ret2
        exact ⟨_, _, rfl, HF1.out, HF2.out, HF3.out⟩
    rw [if_pos d6] at hL
    by_cases d7 : kindL a = 1
    · rw [if_pos d7] at hL
      have HL := Aside0.mk hL
      have f1 : decide (0 ≤ kindL a) = true := decide_eq_true (by omega)
      have f2 : (kindL a == 1) = true := beq_iff_eq.mpr d7
      have HAL := Aside0.mk (kindL_pos (l := a) (by omega))
      clear hL d6 d7
      go_wp2_with (first | (go_at_call 74; (with_reducible refine HJ.out.kind_p.mono ?_); rintro e1 w5 ⟨rfl, rfl⟩) | (go_at_call 74; (with_reducible refine HJ.out.kind_q.mono ?_); rintro e1 w5 ⟨rfl, rfl⟩))
      go_wp2_with (go_at_call 76; (with_reducible refine (HJ.out.left_p HAL.out).mono ?_); rintro e1 w6 ⟨rfl, hJ⟩; clear HJ; have HJ := Aside0.mk hJ; clear hJ)
      go_wp2_with (first | (go_at_call 74; (with_reducible refine HJ.out.kind_p.mono ?_); rintro e1 w5 ⟨rfl, rfl⟩) | (go_at_call 74; (with_reducible refine HJ.out.kind_q.mono ?_); rintro e1 w5 ⟨rfl, rfl⟩) | (go_at_call 75; (with_reducible refine (HJ.out.put_x 1 (leftL a ua) HZ.out).mono ?_); rintro e1 w6 ⟨rfl, hJ⟩; clear HJ; have HJ := Aside0.mk hJ; clear hJ))
      go_wp2_with (go_at_call 76; (with_reducible refine (HJ.out.left_p HAL.out).mono ?_); rintro e1 w6 ⟨rfl, hJ⟩; clear HJ; have HJ := Aside0.mk hJ; clear hJ)
      go_wp2_with (first | (go_at_call 74; (with_reducible refine HJ.out.kind_p.mono ?_); rintro e1 w5 ⟨rfl, rfl⟩) | (go_at_call 74; (with_reducible refine HJ.out.kind_q.mono ?_); rintro e1 w5 ⟨rfl, rfl⟩) | (go_at_call 75; (with_reducible refine (HJ.out.put_y 0 (leftL a ua) HY2.out).mono ?_); rintro e1 w6 ⟨rfl, hJ⟩; clear HJ; have HJ := Aside0.mk hJ; clear hJ))
      go_wp2_with (go_at_call 76; (with_reducible refine (HJ.out.left_p HAL.out).mono ?_); rintro e1 w6 ⟨rfl, hJ⟩; clear HJ; have HJ := Aside0.mk hJ; clear hJ)
      go_wp2_with (go_at_call 77; (with_reducible refine (HJ.out.take_p (leftL a ua) HAL.out).mono ?_); rintro e1 w6 ⟨rfl, hJ⟩; clear HJ; have HJ := Aside0.mk hJ; clear hJ)
      go_roundg gl
      case measure => exact Nat.lt_succ_self _
      case rel => exact ⟨_, _, _, _, _, _, HJ, HL⟩
    rw [if_neg d7] at hL
    have f3 : (kindL a == 1) = false := beq_eq_false_iff_ne.mpr d7
    clear d7
    by_cases d8 : kindL b = 1
    · rw [if_pos d8] at hL
      have HL := Aside0.mk hL
      have f2 : (kindL b == 1) = true := beq_iff_eq.mpr d8
      have f1 : decide (0 ≤ kindL b) = true := decide_eq_true (by omega)
      have HBL := Aside0.mk (kindL_pos (l := b) (by omega))
      clear hL d6 d8
      cases f4 : decide (0 ≤ kindL a) with
      | false =>
        go_wp2_with (first | (go_at_call 74; (with_reducible refine HJ.out.kind_p.mono ?_); rintro e1 w5 ⟨rfl, rfl⟩) | (go_at_call 74; (with_reducible refine HJ.out.kind_q.mono ?_); rintro e1 w5 ⟨rfl, rfl⟩))
        go_wp2_with (go_at_call 76; (with_reducible refine (HJ.out.left_q HBL.out).mono ?_); rintro e1 w6 ⟨rfl, hJ⟩; clear HJ; have HJ := Aside0.mk hJ; clear hJ)
        go_wp2_with (first | (go_at_call 74; (with_reducible refine HJ.out.kind_p.mono ?_); rintro e1 w5 ⟨rfl, rfl⟩) | (go_at_call 74; (with_reducible refine HJ.out.kind_q.mono ?_); rintro e1 w5 ⟨rfl, rfl⟩) | (go_at_call 75; (with_reducible refine (HJ.out.put_x 0 (leftL b ub) HZ.out).mono ?_); rintro e1 w6 ⟨rfl, hJ⟩; clear HJ; have HJ := Aside0.mk hJ; clear hJ))
        go_wp2_with (go_at_call 76; (with_reducible refine (HJ.out.left_q HBL.out).mono ?_); rintro e1 w6 ⟨rfl, hJ⟩; clear HJ; have HJ := Aside0.mk hJ; clear hJ)
        go_wp2_with (first | (go_at_call 74; (with_reducible refine HJ.out.kind_p.mono ?_); rintro e1 w5 ⟨rfl, rfl⟩) | (go_at_call 74; (with_reducible refine HJ.out.kind_q.mono ?_); rintro e1 w5 ⟨rfl, rfl⟩) | (go_at_call 75; (with_reducible refine (HJ.out.put_y 1 (leftL b ub) HY2.out).mono ?_); rintro e1 w6 ⟨rfl, hJ⟩; clear HJ; have HJ := Aside0.mk hJ; clear hJ))
        go_wp2_with (go_at_call 76; (with_reducible refine (HJ.out.left_q HBL.out).mono ?_); rintro e1 w6 ⟨rfl, hJ⟩; clear HJ; have HJ := Aside0.mk hJ; clear hJ)
        go_wp2_with (go_at_call 77; (with_reducible refine (HJ.out.take_q (leftL b ub) HBL.out).mono ?_); rintro e1 w6 ⟨rfl, hJ⟩; clear HJ; have HJ := Aside0.mk hJ; clear hJ)
        go_roundg gl
        case measure => exact Nat.lt_succ_self _
        case rel => exact ⟨_, _, _, _, _, _, HJ, HL⟩
      | true =>
        go_wp2_with (first | (go_at_call 74; (with_reducible refine HJ.out.kind_p.mono ?_); rintro e1 w5 ⟨rfl, rfl⟩) | (go_at_call 74; (with_reducible refine HJ.out.kind_q.mono ?_); rintro e1 w5 ⟨rfl, rfl⟩))
        go_wp2_with (go_at_call 76; (with_reducible refine (HJ.out.left_q HBL.out).mono ?_); rintro e1 w6 ⟨rfl, hJ⟩; clear HJ; have HJ := Aside0.mk hJ; clear hJ)
        go_wp2_with (first | (go_at_call 74; (with_reducible refine HJ.out.kind_p.mono ?_); rintro e1 w5 ⟨rfl, rfl⟩) | (go_at_call 74; (with_reducible refine HJ.out.kind_q.mono ?_); rintro e1 w5 ⟨rfl, rfl⟩) | (go_at_call 75; (with_reducible refine (HJ.out.put_x 0 (leftL b ub) HZ.out).mono ?_); rintro e1 w6 ⟨rfl, hJ⟩; clear HJ; have HJ := Aside0.mk hJ; clear hJ))
        go_wp2_with (go_at_call 76; (with_reducible refine (HJ.out.left_q HBL.out).mono ?_); rintro e1 w6 ⟨rfl, hJ⟩; clear HJ; have HJ := Aside0.mk hJ; clear hJ)
        go_wp2_with (first | (go_at_call 74; (with_reducible refine HJ.out.kind_p.mono ?_); rintro e1 w5 ⟨rfl, rfl⟩) | (go_at_call 74; (with_reducible refine HJ.out.kind_q.mono ?_); rintro e1 w5 ⟨rfl, rfl⟩) | (go_at_call 75; (with_reducible refine (HJ.out.put_y 1 (leftL b ub) HY2.out).mono ?_); rintro e1 w6 ⟨rfl, hJ⟩; clear HJ; have HJ := Aside0.mk hJ; clear hJ))
        go_wp2_with (go_at_call 76; (with_reducible refine (HJ.out.left_q HBL.out).mono ?_); rintro e1 w6 ⟨rfl, hJ⟩; clear HJ; have HJ := Aside0.mk hJ; clear hJ)
        go_wp2_with (go_at_call 77; (with_reducible refine (HJ.out.take_q (leftL b ub) HBL.out).mono ?_); rintro e1 w6 ⟨rfl, hJ⟩; clear HJ; have HJ := Aside0.mk hJ; clear hJ)
        go_roundg gl
        case measure => exact Nat.lt_succ_self _
        case rel => exact ⟨_, _, _, _, _, _, HJ, HL⟩
    rw [if_neg d8] at hL
    have f4 : (kindL b == 1) = false := beq_eq_false_iff_ne.mpr d8
    by_cases d9 : kindL a < 0 ∨ b.length = 0
    · rw [if_pos d9] at hL
      cases hL
    rw [if_neg d9] at hL
    have f1 : decide (0 ≤ kindL a) = true := decide_eq_true (by omega)
    have HAL := Aside0.mk (kindL_pos (l := a) (by omega))
    have HBL := Aside0.mk (show 0 < b.length by omega)
    clear d6 d8 d9
    obtain ⟨n, hn⟩ : ∃ n, (if leftL b ub < leftL a ua then leftL b ub else leftL a ua) = n := ⟨_, rfl⟩
    rw [show mn (leftL a ua) (leftL b ub) = n from hn] at hL
    by_cases d10 : kindL b = 0
    · rw [if_pos d10] at hL
      have f5 : (kindL b == 0) = true := beq_iff_eq.mpr d10
      clear d10
      by_cases d11 : kindL a = 0
      · rw [if_pos d11] at hL
        have HL := Aside0.mk hL
        have f6 : (kindL a == 0) = true := beq_iff_eq.mpr d11
        clear hL d11
        go_wp2_with (first | (go_at_call 74; (with_reducible refine HJ.out.kind_p.mono ?_); rintro e1 w5 ⟨rfl, rfl⟩) | (go_at_call 74; (with_reducible refine HJ.out.kind_q.mono ?_); rintro e1 w5 ⟨rfl, rfl⟩))
        go_wp2_with (go_at_call 76; (with_reducible refine (HJ.out.left_p HAL.out).mono ?_); rintro e1 w6 ⟨rfl, hJ⟩; clear HJ; have HJ := Aside0.mk hJ; clear hJ)
        go_wp2_with (go_at_call 76; (with_reducible refine (HJ.out.left_q HBL.out).mono ?_); rintro e1 w6 ⟨rfl, hJ⟩; clear HJ; have HJ := Aside0.mk hJ; clear hJ)
        go_wp2_with (first | (go_at_call 74; (with_reducible refine HJ.out.kind_p.mono ?_); rintro e1 w5 ⟨rfl, rfl⟩) | (go_at_call 74; (with_reducible refine HJ.out.kind_q.mono ?_); rintro e1 w5 ⟨rfl, rfl⟩) | (go_at_call 75; (with_reducible refine (HJ.out.put_x (kindL a) n HZ.out).mono ?_); rintro e1 w6 ⟨rfl, hJ⟩; clear HJ; have HJ := Aside0.mk hJ; clear hJ))
        go_wp2_with (first | (go_at_call 74; (with_reducible refine HJ.out.kind_p.mono ?_); rintro e1 w5 ⟨rfl, rfl⟩) | (go_at_call 74; (with_reducible refine HJ.out.kind_q.mono ?_); rintro e1 w5 ⟨rfl, rfl⟩) | (go_at_call 75; (with_reducible refine (HJ.out.put_y (kindL b) n HY2.out).mono ?_); rintro e1 w6 ⟨rfl, hJ⟩; clear HJ; have HJ := Aside0.mk hJ; clear hJ))
        go_wp2_with (first | (go_at_call 74; (with_reducible refine HJ.out.kind_p.mono ?_); rintro e1 w5 ⟨rfl, rfl⟩) | (go_at_call 74; (with_reducible refine HJ.out.kind_q.mono ?_); rintro e1 w5 ⟨rfl, rfl⟩) | (go_at_call 77; (with_reducible refine (HJ.out.take_p n HAL.out).mono ?_); rintro e1 w6 ⟨rfl, hJ⟩; clear HJ; have HJ := Aside0.mk hJ; clear hJ))
        go_wp2_with (go_at_call 77; (with_reducible refine (HJ.out.take_q n HBL.out).mono ?_); rintro e1 w6 ⟨rfl, hJ⟩; clear HJ; have HJ := Aside0.mk hJ; clear hJ)
        go_roundg gl
        case measure => exact Nat.lt_succ_self _
        case rel => exact ⟨_, _, _, _, _, _, HJ, HL⟩
      · rw [if_neg d11] at hL
        have HL := Aside0.mk hL
        have f6 : (kindL a == 0) = false := beq_eq_false_iff_ne.mpr d11
        clear hL d11
        go_wp2_with (first | (go_at_call 74; (with_reducible refine HJ.out.kind_p.mono ?_); rintro e1 w5 ⟨rfl, rfl⟩) | (go_at_call 74; (with_reducible refine HJ.out.kind_q.mono ?_); rintro e1 w5 ⟨rfl, rfl⟩))
        go_wp2_with (go_at_call 76; (with_reducible refine (HJ.out.left_p HAL.out).mono ?_); rintro e1 w6 ⟨rfl, hJ⟩; clear HJ; have HJ := Aside0.mk hJ; clear hJ)
        go_wp2_with (go_at_call 76; (with_reducible refine (HJ.out.left_q HBL.out).mono ?_); rintro e1 w6 ⟨rfl, hJ⟩; clear HJ; have HJ := Aside0.mk hJ; clear hJ)
        go_wp2_with (first | (go_at_call 74; (with_reducible refine HJ.out.kind_p.mono ?_); rintro e1 w5 ⟨rfl, rfl⟩) | (go_at_call 74; (with_reducible refine HJ.out.kind_q.mono ?_); rintro e1 w5 ⟨rfl, rfl⟩) | (go_at_call 75; (with_reducible refine (HJ.out.put_x (kindL a) n HZ.out).mono ?_); rintro e1 w6 ⟨rfl, hJ⟩; clear HJ; have HJ := Aside0.mk hJ; clear hJ))
        go_wp2_with (first | (go_at_call 74; (with_reducible refine HJ.out.kind_p.mono ?_); rintro e1 w5 ⟨rfl, rfl⟩) | (go_at_call 74; (with_reducible refine HJ.out.kind_q.mono ?_); rintro e1 w5 ⟨rfl, rfl⟩) | (go_at_call 77; (with_reducible refine (HJ.out.take_p n HAL.out).mono ?_); rintro e1 w6 ⟨rfl, hJ⟩; clear HJ; have HJ := Aside0.mk hJ; clear hJ))
        go_wp2_with (go_at_call 77; (with_reducible refine (HJ.out.take_q n HBL.out).mono ?_); rintro e1 w6 ⟨rfl, hJ⟩; clear HJ; have HJ := Aside0.mk hJ; clear hJ)
        go_roundg gl
        case measure => exact Nat.lt_succ_self _
        case rel => exact ⟨_, _, _, _, _, _, HJ, HL⟩
    rw [if_neg d10] at hL
    have f5 : (kindL b == 0) = false := beq_eq_false_iff_ne.mpr d10
    clear d10
    by_cases d11 : kindL a = 0
    · rw [if_pos d11] at hL
      have HL := Aside0.mk hL
      have f6 : (kindL a == 0) = true := beq_iff_eq.mpr d11
      clear hL d11
      go_wp2_with (first | (go_at_call 74; (with_reducible refine HJ.out.kind_p.mono ?_); rintro e1 w5 ⟨rfl, rfl⟩) | (go_at_call 74; (with_reducible refine HJ.out.kind_q.mono ?_); rintro e1 w5 ⟨rfl, rfl⟩))
      go_wp2_with (go_at_call 76; (with_reducible refine (HJ.out.left_p HAL.out).mono ?_); rintro e1 w6 ⟨rfl, hJ⟩; clear HJ; have HJ := Aside0.mk hJ; clear hJ)
      go_wp2_with (go_at_call 76; (with_reducible refine (HJ.out.left_q HBL.out).mono ?_); rintro e1 w6 ⟨rfl, hJ⟩; clear HJ; have HJ := Aside0.mk hJ; clear hJ)
      go_wp2_with (first | (go_at_call 74; (with_reducible refine HJ.out.kind_p.mono ?_); rintro e1 w5 ⟨rfl, rfl⟩) | (go_at_call 74; (with_reducible refine HJ.out.kind_q.mono ?_); rintro e1 w5 ⟨rfl, rfl⟩) | (go_at_call 75; (with_reducible refine (HJ.out.put_y (kindL b) n HY2.out).mono ?_); rintro e1 w6 ⟨rfl, hJ⟩; clear HJ; have HJ := Aside0.mk hJ; clear hJ))
      go_wp2_with (first | (go_at_call 74; (with_reducible refine HJ.out.kind_p.mono ?_); rintro e1 w5 ⟨rfl, rfl⟩) | (go_at_call 74; (with_reducible refine HJ.out.kind_q.mono ?_); rintro e1 w5 ⟨rfl, rfl⟩) | (go_at_call 77; (with_reducible refine (HJ.out.take_p n HAL.out).mono ?_); rintro e1 w6 ⟨rfl, hJ⟩; clear HJ; have HJ := Aside0.mk hJ; clear hJ))
      go_wp2_with (go_at_call 77; (with_reducible refine (HJ.out.take_q n HBL.out).mono ?_); rintro e1 w6 ⟨rfl, hJ⟩; clear HJ; have HJ := Aside0.mk hJ; clear hJ)
      go_roundg gl
      case measure => exact Nat.lt_succ_self _
      case rel => exact ⟨_, _, _, _, _, _, HJ, HL⟩
    · rw [if_neg d11] at hL
      have HL := Aside0.mk hL
      have f6 : (kindL a == 0) = false := beq_eq_false_iff_ne.mpr d11
      clear hL d11
      go_wp2_with (first | (go_at_call 74; (with_reducible refine HJ.out.kind_p.mono ?_); rintro e1 w5 ⟨rfl, rfl⟩) | (go_at_call 74; (with_reducible refine HJ.out.kind_q.mono ?_); rintro e1 w5 ⟨rfl, rfl⟩))
      go_wp2_with (go_at_call 76; (with_reducible refine (HJ.out.left_p HAL.out).mono ?_); rintro e1 w6 ⟨rfl, hJ⟩; clear HJ; have HJ := Aside0.mk hJ; clear hJ)
      go_wp2_with (go_at_call 76; (with_reducible refine (HJ.out.left_q HBL.out).mono ?_); rintro e1 w6 ⟨rfl, hJ⟩; clear HJ; have HJ := Aside0.mk hJ; clear hJ)
      go_wp2_with (first | (go_at_call 74; (with_reducible refine HJ.out.kind_p.mono ?_); rintro e1 w5 ⟨rfl, rfl⟩) | (go_at_call 74; (with_reducible refine HJ.out.kind_q.mono ?_); rintro e1 w5 ⟨rfl, rfl⟩) | (go_at_call 77; (with_reducible refine (HJ.out.take_p n HAL.out).mono ?_); rintro e1 w6 ⟨rfl, hJ⟩; clear HJ; have HJ := Aside0.mk hJ; clear hJ))
      go_wp2_with (go_at_call 77; (with_reducible refine (HJ.out.take_q n HBL.out).mono ?_); rintro e1 w6 ⟨rfl, hJ⟩; clear HJ; have HJ := Aside0.mk hJ; clear hJ)
      go_roundg gl
      case measure => exact Nat.lt_succ_self _
      case rel => exact ⟨_, _, _, _, _, _, HJ, HL⟩
end Go.Proofs.Ytdgemabmmomebaa.PAxis

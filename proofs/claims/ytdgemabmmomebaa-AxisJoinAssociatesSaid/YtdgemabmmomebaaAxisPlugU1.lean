/- The contract of axis.Undo. -/
import Derived.Test.YtdgemabmmomebaaAxisPlug4
namespace Go.Proofs.Ytdgemabmmomebaa.PAxis
open Go.RowKit Go.Proofs.YtdgemabmmomebaaW.PrintWords Go.Proofs.YtdgemabmmomebaaW.PrintLast Go.Proofs.YtdgemabmmomebaaW.PrintMore
set_option linter.unusedVariables false
set_option linter.unusedSimpArgs false

def invK (k : Int) : Int := if k = 1 then 2 else if k = 2 then 1 else 0
/-- The loop of Undo. -/
def undoL : List S97 → WS → Option WS
  | [], s => some s
  | x :: r, s => if 4398046511104 < s.out.length then none else if x.f0 = 0 ∨ x.f0 = 1 ∨ x.f0 = 2 then undoL r (putL s (invK x.f0) x.f1) else none
def undoF (k : Nat) (a : List S97) : Option (List S97 × Int) :=
  if 4398046511104 < a.length then none else (axis_Check.f k a).bind fun e => if e ≠ 0 then some ([], e) else (undoL a ⟨[], 0, 0⟩).bind fun s => if 4398046511104 < s.out.length then none else doneF k s
theorem undoF_mono (a : List S97) (k : Nat) : LeO (undoF k a) (undoF (k + 1) a) :=
  LeO.ite (LeO.refl _) (LeO.bind (axis_Check.mono _ k) (fun e => LeO.ite (LeO.refl _) (LeO.bind (LeO.refl _) (fun s => LeO.ite (LeO.refl _) (doneF_mono s k)))))
theorem drop_T97 (l : List S97) (i : Nat) (h : i < l.length) : l.drop i = rd_T97 l (i : Int) :: l.drop (i + 1) := by
  rw [List.drop_eq_getElem_cons h]
  simp [rd_T97, List.getD_eq_getElem?_getD, List.getElem?_eq_getElem h]
theorem WrSt.below {w0 w w' : World} {g : Nat} {v : Value} {out : List S97} {a c : Int} (h : WrSt w0 w g v out a c v w) (hB : Below w.heap.size w w') : WrSt w0 w' g v out a c v w' :=
  ⟨(hB.block g (blk_lt h.blk)).trans h.blk, Kd.R_below h.row hB, below_step h.bel hB, Moves.refl _ _ _⟩

set_option maxRecDepth 100000 in
set_option maxHeartbeats 16000000 in
theorem undo_calls (k : Nat) (A0 : Option Addr) (c0 : Nat) (l0 : List (S97)) (r1 : List (S97)) (r2 : Int) (w : World) (hr0 : Kd.C k97 w A0 l0.length l0) (hc0 : l0.length ≤ c0) (h : undoF k l0 = some (r1, r2)) :
    Calls Try.prog 35 #[.slice A0 l0.length c0] w fun e w' => ∃ v0_ : Value, e = .returned (.tuple #[v0_, .int .i64 r2]) ∧ Kd.R k97 97 w' w.heap.size (fun _ => True) v0_ r1 ∧ Below w.heap.size w w' := by
  have hu97 := Try.underlying97
  have hu107 := Try.underlying107
  have HR0 := Aside0.mk hr0
  have HC0 := Aside0.mk hc0
  clear hr0 hc0
  rw [undoF] at h
  by_cases d0 : 4398046511104 < l0.length
  · rw [if_pos d0] at h
    cases h
  rw [if_neg d0] at h
  have HLEN := Aside0.mk d0
  clear d0
  replace h := Option.bind_eq_some_iff.1 h
  obtain ⟨e, he, h⟩ := h
  have HE := Aside0.mk he
  clear he
  by_cases d1 : e ≠ 0
  · rw [if_pos d1] at h
    have d1b : (e != 0) = true := bne_iff_ne.mpr d1
    simp only [Option.some.injEq, Prod.mk.injEq] at h
    obtain ⟨rfl, rfl⟩ := h
    clear d1
    go_enter Try.func35, Try.ntmps35
    go_wp2_with (go_at_call 72; (with_reducible refine (axis_Check.calls k _ _ l0 e _ HR0.out HC0.out HE.out).mono ?_); rintro e1 w1 ⟨rfl, hb⟩; have HB1 := Aside0.mk hb; clear hb)
    first | go_ret | go_ret2
    exact ⟨_, rfl, Kd.R_nil _ _ _ _ _, HB1.out⟩
  rw [if_neg d1] at h
  have d1b : (e != 0) = false := by simpa using d1
  clear d1
  replace h := Option.bind_eq_some_iff.1 h
  obtain ⟨z, hz, h⟩ := h
  have HZ := Aside0.mk (show undoL (l0.drop 0) ⟨[], 0, 0⟩ = some z from hz)
  by_cases d4 : 4398046511104 < z.out.length
  · rw [if_pos d4] at h
    cases h
  rw [if_neg d4] at h
  have HD := Aside0.mk h
  have H4 := Aside0.mk d4
  clear h hz d4
  go_enter Try.func35, Try.ntmps35
  go_wp2_with (go_at_call 72; (with_reducible refine (axis_Check.calls k _ _ l0 e _ HR0.out HC0.out HE.out).mono ?_); rintro e1 w4 ⟨rfl, hb⟩; have HB4 := Aside0.mk hb; clear hb)
  have HJ0 : Aside0 (∃ v, WrSt w (w4.alloc (Obj.cells #[Value.slice none 0 0, Value.int IntKind.i64 0, Value.int IntKind.i64 0] 107 (0, 0))) w4.heap.size v [] 0 0 v (w4.alloc (Obj.cells #[Value.slice none 0 0, Value.int IntKind.i64 0, Value.int IntKind.i64 0] 107 (0, 0)))) :=
    ⟨.slice none 0 0, blk_new w4 _, Kd.R_nil _ _ _ _ _, below_alloc HB4.out _, Moves.refl _ _ _⟩
  obtain ⟨gw, hgw⟩ : ∃ g, g = w4.heap.size := ⟨_, rfl⟩
  have HGW := Aside0.mk (show w.heap.size ≤ gw from by rw [hgw]; exact HB4.out.size)
  rw [← hgw] at HJ0
  rw [← hgw]
  clear hgw
  go_loopg [15] l0.length (fun m v15 wr => ∃ (i : Nat) (s : WS), v15 = .int .i64 (i : Int) ∧ Aside0 (m + i = l0.length) ∧ Aside0 (∃ v, WrSt w wr gw v s.out s.add s.cut v wr) ∧ Aside0 (undoL (l0.drop i) s = some z))
  case atStart => exact ⟨0, ⟨[], 0, 0⟩, rfl, ⟨rfl⟩, HJ0, HZ⟩
  case round =>
    clear HJ0 HZ
    obtain ⟨i, s, rfl, HI, HW, HL⟩ := hrel
    by_cases d2 : i < l0.length
    rotate_left
    · have g1 : decide ((i : Int) < (l0.length : Int)) = false := decide_eq_false (by omega)
      have g1' : decide (i < l0.length) = false := decide_eq_false d2
      have hL := HL.out
      rw [List.drop_eq_nil_of_le (by omega), undoL] at hL
      injection hL with hL
      subst hL
      clear d2 HL
      go_wp2_with (go_at_call 78; (obtain ⟨v, hv⟩ := HW.out); (with_reducible refine (done_calls k w gw s r1 r2 v _ HGW.out hv (by have := H4.out; omega) HD.out).mono ?_); rintro e1 w6 ⟨v6, rfl, hR, hB, hM⟩; obtain ⟨A9, n9, hv9⟩ := Kd.R_slice hR; subst hv9; have HR9 := Aside0.mk hR; have HB9 := Aside0.mk hB; clear hR hB hM hv)
      first | go_ret | go_ret2
      exact ⟨_, rfl, HR9.out, HB9.out⟩
    obtain ⟨gl, rfl⟩ : ∃ gl, gk = gl + 1 := ⟨gk - 1, by have := HI.out; omega⟩
    have hL := HL.out
    rw [drop_T97 l0 i d2, undoL] at hL
    by_cases d5 : 4398046511104 < s.out.length
    · rw [if_pos d5] at hL
      cases hL
    rw [if_neg d5] at hL
    have HSL := Aside0.mk (show (s.out.length + 3) * 16 ≤ 140737488355328 by omega)
    clear d5 HL
    have HWB : Aside0 (Below w.heap.size w wr) := by
      obtain ⟨v, hv⟩ := HW.out
      exact ⟨hv.bel⟩
    have g1 : decide ((i : Int) < (l0.length : Int)) = true := decide_eq_true (by omega)
    have g1' : decide (i < l0.length) = true := decide_eq_true d2
    have q1 : (i : Int) < (l0.length : Int) := by omega
    obtain ⟨ad0, e0, hx0, hx1⟩ := at_T97 HR0.out (i : Int) (by omega) q1
    cases e0
    replace hx0 := (HWB.out.cell (World.block_lt_of_cell? w _ hx0)).trans hx0
    replace hx1 := (HWB.out.cell (World.block_lt_of_cell? w _ hx1)).trans hx1
    simp only [Int.toNat_natCast] at hx0 hx1
    have wk : wrap64 ((i : Int) + 1) = (i : Int) + 1 := by have := HLEN.out; unfold wrap64; omega
    by_cases d6 : (rd_T97 l0 (i : Int)).f0 = 0 ∨ (rd_T97 l0 (i : Int)).f0 = 1 ∨ (rd_T97 l0 (i : Int)).f0 = 2
    rotate_left
    · rw [if_neg d6] at hL
      cases hL
    rw [if_pos d6] at hL
    clear d2
    obtain ⟨n, hn⟩ : ∃ n, n = (rd_T97 l0 (i : Int)).f1 := ⟨_, rfl⟩
    rw [← hn] at hx1 hL
    clear hn
    obtain ⟨kd, hkd⟩ : ∃ n, n = (rd_T97 l0 (i : Int)).f0 := ⟨_, rfl⟩
    rw [← hkd] at hx0 hL d6
    clear hkd
    rcases d6 with rfl | rfl | rfl
    · skip
      have HL := Aside0.mk (show undoL (l0.drop (i + 1)) (putL s 0 n) = some z from hL)
      clear hL
      go_upto_region 8 with ((with_reducible refine gate_dst (N := 7) rfl ?_); refine box_event ?hg (N := 7) ?hd (cs := #[.int .i64 0, .int .i64 0]) (t := 97) ?hr ?_; (case hd => rfl); (case hg => rfl); (case hr => first | (go_simp; done) | (go_simp; rfl)); intro gb hg w7 hbox hb; have HBB := Aside0.mk hb; have HBK := Aside0.mk hbox; have HG := Aside0.mk hg; clear hb hbox hg; have hcz0 : w7.cell? ⟨gb, 0, none⟩ = some (.int .i64 0) := (blk_cell HBK.out 0).trans rfl; have hcz1 : w7.cell? ⟨gb, 1, none⟩ = some (.int .i64 0) := (blk_cell HBK.out 1).trans rfl; have hfz0 := blk_frozen HBK.out 0; have hfz1 := blk_frozen HBK.out 1)
      have HB8 : Aside0 ((((w7.setCell ⟨gb, 0, none⟩ (.int .i64 0)).setCell ⟨gb, 1, none⟩ (.int .i64 n)).drew).heap[gb]? = some (Obj.cells #[.int .i64 0, .int .i64 n] 97 (0, 0))) := ⟨blk_drew (blk_put (blk_put HBK.out 0 (.int .i64 0) rfl) 1 (.int .i64 n) rfl)⟩
      obtain ⟨vw, hW⟩ := HW.out
      have HWA : Aside0 (∀ o, WrSt w ((((w7.setCell ⟨gb, 0, none⟩ (.int .i64 0)).setCell ⟨gb, 1, none⟩ (.int .i64 n)).alloc o).drew) gw vw s.out s.add s.cut vw ((((w7.setCell ⟨gb, 0, none⟩ (.int .i64 0)).setCell ⟨gb, 1, none⟩ (.int .i64 n)).alloc o).drew)) := ⟨fun o => hW.below (below_drew1 (below_alloc (below_set (below_set HBB.out (by rw [HG.out]; exact Nat.le_refl _)) (by rw [HG.out]; exact Nat.le_refl _)) o))⟩
      clear hW
      refine start_ (n := 8) (S := fun w' => w'.cell? ⟨gb, 0, none⟩ = some (.int .i64 0) ∧ w'.cell? ⟨gb, 1, none⟩ = some (.int .i64 n)) (ds := [7]) #[false, false, false, false, false, false, false, false] (by kernel_rfl) rfl rfl ⟨((blk_cell HB8.out 0).trans rfl), ((blk_cell HB8.out 1).trans rfl)⟩ (fun hHeld => ?_)
      refine pure_ (i := 1) (N := some 20) (v := ?_) (a' := ?_) #[false, true, false, false, false, false, false, false] rfl rfl (by kernel_rfl) (fun _ _ _ h => h) (Or.inl ⟨by rfl, ?_⟩) ?_ ?_
      rotate_left
      · intro w'
        go_simp
        with_reducible rfl
      rotate_left
      · simp only [Act.put, List.setIfInBounds_toArray, List.set_cons_zero, List.set_cons_succ, i64_w, i32_w]
        rfl
      refine pure_ (i := 5) (N := some 24) (v := ?_) (a' := ?_) #[false, true, false, false, false, true, false, false] rfl rfl (by kernel_rfl) (fun _ _ _ h => h) (Or.inl ⟨by rfl, ?_⟩) ?_ ?_
      rotate_left
      · intro w'
        go_simp
        with_reducible rfl
      rotate_left
      · simp only [Act.put, List.setIfInBounds_toArray, List.set_cons_zero, List.set_cons_succ, i64_w, i32_w]
        rfl
      refine take_ (i := 2) (N := some 21) (v := ?_) (a' := ?_) #[false, true, true, false, false, true, false, false] rfl rfl (by kernel_rfl) (fun _ _ _ h => h) (Or.inl ⟨by rfl, ?_⟩) hHeld ?_ ?_
      rotate_left
      · rintro w' ⟨s0, s1⟩
        go_simp
        with_reducible rfl
      rotate_left
      · simp only [Act.put, List.setIfInBounds_toArray, List.set_cons_zero, List.set_cons_succ, i64_w, i32_w]
        rfl
      refine take_ (i := 6) (N := some 25) (v := ?_) (a' := ?_) #[false, true, true, false, false, true, true, false] rfl rfl (by kernel_rfl) (fun _ _ _ h => h) (Or.inl ⟨by rfl, ?_⟩) hHeld ?_ ?_
      rotate_left
      · rintro w' ⟨s0, s1⟩
        go_simp
        with_reducible rfl
      rotate_left
      · simp only [Act.put, List.setIfInBounds_toArray, List.set_cons_zero, List.set_cons_succ, i64_w, i32_w]
        rfl
      refine one_ (i := 0) (N := some 19) #[true, true, true, false, false, true, true, false] rfl rfl (by kernel_rfl) (by decide) (fun K hK => ?_)
      refine value_ (w1 := ?_) (v := ?_) (by rfl) rfl ?_ ?_
      rotate_left 2
      · go_simp
        constructor
        · rfl
        · rfl
      refine hK.out _ _ ⟨((blk_cell (blk_alloc HB8.out _) 0).trans rfl), ((blk_cell (blk_alloc HB8.out _) 1).trans rfl)⟩ (fun hHeld => ?_)
      clear hK K
      refine norm_ (a' := ?_) ?_ ?_
      rotate_left
      · show Act.put _ (some 19) _ = _
        simp only [Act.put, List.setIfInBounds_toArray, List.set_cons_zero, List.set_cons_succ, i64_w, i32_w]
        rfl
      refine pure_ (i := 3) (N := some 22) (v := ?_) (a' := ?_) #[true, true, true, true, false, true, true, false] rfl rfl (by kernel_rfl) (fun _ _ _ h => h) (Or.inl ⟨by rfl, ?_⟩) ?_ ?_
      rotate_left
      · intro w'
        go_simp
        with_reducible rfl
      rotate_left
      · simp only [Act.put, List.setIfInBounds_toArray, List.set_cons_zero, List.set_cons_succ, i64_w, i32_w]
        rfl
      refine one_ (i := 4) (N := some 23) #[true, true, true, true, true, true, true, false] rfl rfl (by kernel_rfl) (by decide) (fun K hK => ?_)
      refine value_ (w1 := ?_) (v := ?_) (by rfl) rfl ?_ ?_
      rotate_left 2
      · go_simp
        constructor
        · rfl
        · rfl
      refine hK.out _ _ ⟨((blk_cell (blk_alloc HB8.out _) 0).trans rfl), ((blk_cell (blk_alloc HB8.out _) 1).trans rfl)⟩ (fun hHeld => ?_)
      clear hK K
      refine norm_ (a' := ?_) ?_ ?_
      rotate_left
      · show Act.put _ (some 23) _ = _
        simp only [Act.put, List.setIfInBounds_toArray, List.set_cons_zero, List.set_cons_succ, i64_w, i32_w]
        rfl
      refine last_ (i := 7) (N := some 26) #[true, true, true, true, true, true, true, true] rfl rfl (by kernel_rfl) (by decide) (fun K hK => ?_)
      refine goes_ Try.func75 (by kernel_rfl) rfl #[.pointer (some ⟨gw, 0, none⟩), .int .i64 0, .int .i64 n] (by rfl) rfl rfl (by simp only [List.map_toArray, List.map_cons, List.map_nil]; rfl) ?_
      with_reducible refine (put_calls w gw s 0 n vw _ HGW.out (HWA.out _) HSL.out).mono ?_
      rintro e1 w9 ⟨rfl, v9, hW9⟩
      refine ⟨_, rfl, ?_⟩
      have HW9 : Aside0 (∃ v, WrSt w w9 gw v (putL s 0 n).out (putL s 0 n).add (putL s 0 n).cut v w9) := ⟨v9, hW9.blk, hW9.row, hW9.bel, Moves.refl _ _ _⟩
      clear hW9
      refine hK.out _ _ ?_
      clear hK K
      refine norm_ (a' := ?_) ?_ ?_
      rotate_left
      · show Act.put _ (some 26) _ = _
        simp only [Act.put, List.setIfInBounds_toArray, List.set_cons_zero, List.set_cons_succ, i64_w, i32_w]
        rfl
      refine done_ (by kernel_rfl) ?_
      go_wp2
      go_roundg gl
      case measure => exact Nat.lt_succ_self _
      case rel => exact ⟨i + 1, _, by first | rfl | go_num, ⟨by have := HI.out; omega⟩, HW9, HL⟩
    · skip
      have HL := Aside0.mk (show undoL (l0.drop (i + 1)) (putL s 2 n) = some z from hL)
      clear hL
      go_upto_region 8 with ((with_reducible refine gate_dst (N := 7) rfl ?_); refine box_event ?hg (N := 7) ?hd (cs := #[.int .i64 0, .int .i64 0]) (t := 97) ?hr ?_; (case hd => rfl); (case hg => rfl); (case hr => first | (go_simp; done) | (go_simp; rfl)); intro gb hg w7 hbox hb; have HBB := Aside0.mk hb; have HBK := Aside0.mk hbox; have HG := Aside0.mk hg; clear hb hbox hg; have hcz0 : w7.cell? ⟨gb, 0, none⟩ = some (.int .i64 0) := (blk_cell HBK.out 0).trans rfl; have hcz1 : w7.cell? ⟨gb, 1, none⟩ = some (.int .i64 0) := (blk_cell HBK.out 1).trans rfl; have hfz0 := blk_frozen HBK.out 0; have hfz1 := blk_frozen HBK.out 1)
      have HB8 : Aside0 ((((w7.setCell ⟨gb, 0, none⟩ (.int .i64 1)).setCell ⟨gb, 1, none⟩ (.int .i64 n)).drew).heap[gb]? = some (Obj.cells #[.int .i64 1, .int .i64 n] 97 (0, 0))) := ⟨blk_drew (blk_put (blk_put HBK.out 0 (.int .i64 1) rfl) 1 (.int .i64 n) rfl)⟩
      obtain ⟨vw, hW⟩ := HW.out
      have HWA : Aside0 (∀ o, WrSt w ((((w7.setCell ⟨gb, 0, none⟩ (.int .i64 1)).setCell ⟨gb, 1, none⟩ (.int .i64 n)).alloc o).drew) gw vw s.out s.add s.cut vw ((((w7.setCell ⟨gb, 0, none⟩ (.int .i64 1)).setCell ⟨gb, 1, none⟩ (.int .i64 n)).alloc o).drew)) := ⟨fun o => hW.below (below_drew1 (below_alloc (below_set (below_set HBB.out (by rw [HG.out]; exact Nat.le_refl _)) (by rw [HG.out]; exact Nat.le_refl _)) o))⟩
      clear hW
      refine start_ (n := 8) (S := fun w' => w'.cell? ⟨gb, 0, none⟩ = some (.int .i64 1) ∧ w'.cell? ⟨gb, 1, none⟩ = some (.int .i64 n)) (ds := [7]) #[false, false, false, false, false, false, false, false] (by kernel_rfl) rfl rfl ⟨((blk_cell HB8.out 0).trans rfl), ((blk_cell HB8.out 1).trans rfl)⟩ (fun hHeld => ?_)
      refine pure_ (i := 1) (N := some 20) (v := ?_) (a' := ?_) #[false, true, false, false, false, false, false, false] rfl rfl (by kernel_rfl) (fun _ _ _ h => h) (Or.inl ⟨by rfl, ?_⟩) ?_ ?_
      rotate_left
      · intro w'
        go_simp
        with_reducible rfl
      rotate_left
      · simp only [Act.put, List.setIfInBounds_toArray, List.set_cons_zero, List.set_cons_succ, i64_w, i32_w]
        rfl
      refine pure_ (i := 5) (N := some 24) (v := ?_) (a' := ?_) #[false, true, false, false, false, true, false, false] rfl rfl (by kernel_rfl) (fun _ _ _ h => h) (Or.inl ⟨by rfl, ?_⟩) ?_ ?_
      rotate_left
      · intro w'
        go_simp
        with_reducible rfl
      rotate_left
      · simp only [Act.put, List.setIfInBounds_toArray, List.set_cons_zero, List.set_cons_succ, i64_w, i32_w]
        rfl
      refine take_ (i := 2) (N := some 21) (v := ?_) (a' := ?_) #[false, true, true, false, false, true, false, false] rfl rfl (by kernel_rfl) (fun _ _ _ h => h) (Or.inl ⟨by rfl, ?_⟩) hHeld ?_ ?_
      rotate_left
      · rintro w' ⟨s0, s1⟩
        go_simp
        with_reducible rfl
      rotate_left
      · simp only [Act.put, List.setIfInBounds_toArray, List.set_cons_zero, List.set_cons_succ, i64_w, i32_w]
        rfl
      refine take_ (i := 6) (N := some 25) (v := ?_) (a' := ?_) #[false, true, true, false, false, true, true, false] rfl rfl (by kernel_rfl) (fun _ _ _ h => h) (Or.inl ⟨by rfl, ?_⟩) hHeld ?_ ?_
      rotate_left
      · rintro w' ⟨s0, s1⟩
        go_simp
        with_reducible rfl
      rotate_left
      · simp only [Act.put, List.setIfInBounds_toArray, List.set_cons_zero, List.set_cons_succ, i64_w, i32_w]
        rfl
      refine one_ (i := 0) (N := some 19) #[true, true, true, false, false, true, true, false] rfl rfl (by kernel_rfl) (by decide) (fun K hK => ?_)
      refine value_ (w1 := ?_) (v := ?_) (by rfl) rfl ?_ ?_
      rotate_left 2
      · go_simp
        constructor
        · rfl
        · rfl
      refine hK.out _ _ ⟨((blk_cell (blk_alloc HB8.out _) 0).trans rfl), ((blk_cell (blk_alloc HB8.out _) 1).trans rfl)⟩ (fun hHeld => ?_)
      clear hK K
      refine norm_ (a' := ?_) ?_ ?_
      rotate_left
      · show Act.put _ (some 19) _ = _
        simp only [Act.put, List.setIfInBounds_toArray, List.set_cons_zero, List.set_cons_succ, i64_w, i32_w]
        rfl
      refine pure_ (i := 3) (N := some 22) (v := ?_) (a' := ?_) #[true, true, true, true, false, true, true, false] rfl rfl (by kernel_rfl) (fun _ _ _ h => h) (Or.inl ⟨by rfl, ?_⟩) ?_ ?_
      rotate_left
      · intro w'
        go_simp
        with_reducible rfl
      rotate_left
      · simp only [Act.put, List.setIfInBounds_toArray, List.set_cons_zero, List.set_cons_succ, i64_w, i32_w]
        rfl
      refine one_ (i := 4) (N := some 23) #[true, true, true, true, true, true, true, false] rfl rfl (by kernel_rfl) (by decide) (fun K hK => ?_)
      refine value_ (w1 := ?_) (v := ?_) (by rfl) rfl ?_ ?_
      rotate_left 2
      · go_simp
        constructor
        · rfl
        · rfl
      refine hK.out _ _ ⟨((blk_cell (blk_alloc HB8.out _) 0).trans rfl), ((blk_cell (blk_alloc HB8.out _) 1).trans rfl)⟩ (fun hHeld => ?_)
      clear hK K
      refine norm_ (a' := ?_) ?_ ?_
      rotate_left
      · show Act.put _ (some 23) _ = _
        simp only [Act.put, List.setIfInBounds_toArray, List.set_cons_zero, List.set_cons_succ, i64_w, i32_w]
        rfl
      refine last_ (i := 7) (N := some 26) #[true, true, true, true, true, true, true, true] rfl rfl (by kernel_rfl) (by decide) (fun K hK => ?_)
      refine goes_ Try.func75 (by kernel_rfl) rfl #[.pointer (some ⟨gw, 0, none⟩), .int .i64 2, .int .i64 n] (by rfl) rfl rfl (by simp only [List.map_toArray, List.map_cons, List.map_nil]; rfl) ?_
      with_reducible refine (put_calls w gw s 2 n vw _ HGW.out (HWA.out _) HSL.out).mono ?_
      rintro e1 w9 ⟨rfl, v9, hW9⟩
      refine ⟨_, rfl, ?_⟩
      have HW9 : Aside0 (∃ v, WrSt w w9 gw v (putL s 2 n).out (putL s 2 n).add (putL s 2 n).cut v w9) := ⟨v9, hW9.blk, hW9.row, hW9.bel, Moves.refl _ _ _⟩
      clear hW9
      refine hK.out _ _ ?_
      clear hK K
      refine norm_ (a' := ?_) ?_ ?_
      rotate_left
      · show Act.put _ (some 26) _ = _
        simp only [Act.put, List.setIfInBounds_toArray, List.set_cons_zero, List.set_cons_succ, i64_w, i32_w]
        rfl
      refine done_ (by kernel_rfl) ?_
      go_wp2
      go_roundg gl
      case measure => exact Nat.lt_succ_self _
      case rel => exact ⟨i + 1, _, by first | rfl | go_num, ⟨by have := HI.out; omega⟩, HW9, HL⟩
    · skip
      have HL := Aside0.mk (show undoL (l0.drop (i + 1)) (putL s 1 n) = some z from hL)
      clear hL
      go_upto_region 8 with ((with_reducible refine gate_dst (N := 7) rfl ?_); refine box_event ?hg (N := 7) ?hd (cs := #[.int .i64 0, .int .i64 0]) (t := 97) ?hr ?_; (case hd => rfl); (case hg => rfl); (case hr => first | (go_simp; done) | (go_simp; rfl)); intro gb hg w7 hbox hb; have HBB := Aside0.mk hb; have HBK := Aside0.mk hbox; have HG := Aside0.mk hg; clear hb hbox hg; have hcz0 : w7.cell? ⟨gb, 0, none⟩ = some (.int .i64 0) := (blk_cell HBK.out 0).trans rfl; have hcz1 : w7.cell? ⟨gb, 1, none⟩ = some (.int .i64 0) := (blk_cell HBK.out 1).trans rfl; have hfz0 := blk_frozen HBK.out 0; have hfz1 := blk_frozen HBK.out 1)
      have HB8 : Aside0 ((((w7.setCell ⟨gb, 0, none⟩ (.int .i64 2)).setCell ⟨gb, 1, none⟩ (.int .i64 n)).drew).heap[gb]? = some (Obj.cells #[.int .i64 2, .int .i64 n] 97 (0, 0))) := ⟨blk_drew (blk_put (blk_put HBK.out 0 (.int .i64 2) rfl) 1 (.int .i64 n) rfl)⟩
      obtain ⟨vw, hW⟩ := HW.out
      have HWA : Aside0 (∀ o, WrSt w ((((w7.setCell ⟨gb, 0, none⟩ (.int .i64 2)).setCell ⟨gb, 1, none⟩ (.int .i64 n)).alloc o).drew) gw vw s.out s.add s.cut vw ((((w7.setCell ⟨gb, 0, none⟩ (.int .i64 2)).setCell ⟨gb, 1, none⟩ (.int .i64 n)).alloc o).drew)) := ⟨fun o => hW.below (below_drew1 (below_alloc (below_set (below_set HBB.out (by rw [HG.out]; exact Nat.le_refl _)) (by rw [HG.out]; exact Nat.le_refl _)) o))⟩
      clear hW
      refine start_ (n := 8) (S := fun w' => w'.cell? ⟨gb, 0, none⟩ = some (.int .i64 2) ∧ w'.cell? ⟨gb, 1, none⟩ = some (.int .i64 n)) (ds := [7]) #[false, false, false, false, false, false, false, false] (by kernel_rfl) rfl rfl ⟨((blk_cell HB8.out 0).trans rfl), ((blk_cell HB8.out 1).trans rfl)⟩ (fun hHeld => ?_)
      refine pure_ (i := 1) (N := some 20) (v := ?_) (a' := ?_) #[false, true, false, false, false, false, false, false] rfl rfl (by kernel_rfl) (fun _ _ _ h => h) (Or.inl ⟨by rfl, ?_⟩) ?_ ?_
      rotate_left
      · intro w'
        go_simp
        with_reducible rfl
      rotate_left
      · simp only [Act.put, List.setIfInBounds_toArray, List.set_cons_zero, List.set_cons_succ, i64_w, i32_w]
        rfl
      refine pure_ (i := 5) (N := some 24) (v := ?_) (a' := ?_) #[false, true, false, false, false, true, false, false] rfl rfl (by kernel_rfl) (fun _ _ _ h => h) (Or.inl ⟨by rfl, ?_⟩) ?_ ?_
      rotate_left
      · intro w'
        go_simp
        with_reducible rfl
      rotate_left
      · simp only [Act.put, List.setIfInBounds_toArray, List.set_cons_zero, List.set_cons_succ, i64_w, i32_w]
        rfl
      refine take_ (i := 2) (N := some 21) (v := ?_) (a' := ?_) #[false, true, true, false, false, true, false, false] rfl rfl (by kernel_rfl) (fun _ _ _ h => h) (Or.inl ⟨by rfl, ?_⟩) hHeld ?_ ?_
      rotate_left
      · rintro w' ⟨s0, s1⟩
        go_simp
        with_reducible rfl
      rotate_left
      · simp only [Act.put, List.setIfInBounds_toArray, List.set_cons_zero, List.set_cons_succ, i64_w, i32_w]
        rfl
      refine take_ (i := 6) (N := some 25) (v := ?_) (a' := ?_) #[false, true, true, false, false, true, true, false] rfl rfl (by kernel_rfl) (fun _ _ _ h => h) (Or.inl ⟨by rfl, ?_⟩) hHeld ?_ ?_
      rotate_left
      · rintro w' ⟨s0, s1⟩
        go_simp
        with_reducible rfl
      rotate_left
      · simp only [Act.put, List.setIfInBounds_toArray, List.set_cons_zero, List.set_cons_succ, i64_w, i32_w]
        rfl
      refine one_ (i := 0) (N := some 19) #[true, true, true, false, false, true, true, false] rfl rfl (by kernel_rfl) (by decide) (fun K hK => ?_)
      refine value_ (w1 := ?_) (v := ?_) (by rfl) rfl ?_ ?_
      rotate_left 2
      · go_simp
        constructor
        · rfl
        · rfl
      refine hK.out _ _ ⟨((blk_cell (blk_alloc HB8.out _) 0).trans rfl), ((blk_cell (blk_alloc HB8.out _) 1).trans rfl)⟩ (fun hHeld => ?_)
      clear hK K
      refine norm_ (a' := ?_) ?_ ?_
      rotate_left
      · show Act.put _ (some 19) _ = _
        simp only [Act.put, List.setIfInBounds_toArray, List.set_cons_zero, List.set_cons_succ, i64_w, i32_w]
        rfl
      refine pure_ (i := 3) (N := some 22) (v := ?_) (a' := ?_) #[true, true, true, true, false, true, true, false] rfl rfl (by kernel_rfl) (fun _ _ _ h => h) (Or.inl ⟨by rfl, ?_⟩) ?_ ?_
      rotate_left
      · intro w'
        go_simp
        with_reducible rfl
      rotate_left
      · simp only [Act.put, List.setIfInBounds_toArray, List.set_cons_zero, List.set_cons_succ, i64_w, i32_w]
        rfl
      refine one_ (i := 4) (N := some 23) #[true, true, true, true, true, true, true, false] rfl rfl (by kernel_rfl) (by decide) (fun K hK => ?_)
      refine value_ (w1 := ?_) (v := ?_) (by rfl) rfl ?_ ?_
      rotate_left 2
      · go_simp
        constructor
        · rfl
        · rfl
      refine hK.out _ _ ⟨((blk_cell (blk_alloc HB8.out _) 0).trans rfl), ((blk_cell (blk_alloc HB8.out _) 1).trans rfl)⟩ (fun hHeld => ?_)
      clear hK K
      refine norm_ (a' := ?_) ?_ ?_
      rotate_left
      · show Act.put _ (some 23) _ = _
        simp only [Act.put, List.setIfInBounds_toArray, List.set_cons_zero, List.set_cons_succ, i64_w, i32_w]
        rfl
      refine last_ (i := 7) (N := some 26) #[true, true, true, true, true, true, true, true] rfl rfl (by kernel_rfl) (by decide) (fun K hK => ?_)
      refine goes_ Try.func75 (by kernel_rfl) rfl #[.pointer (some ⟨gw, 0, none⟩), .int .i64 1, .int .i64 n] (by rfl) rfl rfl (by simp only [List.map_toArray, List.map_cons, List.map_nil]; rfl) ?_
      with_reducible refine (put_calls w gw s 1 n vw _ HGW.out (HWA.out _) HSL.out).mono ?_
      rintro e1 w9 ⟨rfl, v9, hW9⟩
      refine ⟨_, rfl, ?_⟩
      have HW9 : Aside0 (∃ v, WrSt w w9 gw v (putL s 1 n).out (putL s 1 n).add (putL s 1 n).cut v w9) := ⟨v9, hW9.blk, hW9.row, hW9.bel, Moves.refl _ _ _⟩
      clear hW9
      refine hK.out _ _ ?_
      clear hK K
      refine norm_ (a' := ?_) ?_ ?_
      rotate_left
      · show Act.put _ (some 26) _ = _
        simp only [Act.put, List.setIfInBounds_toArray, List.set_cons_zero, List.set_cons_succ, i64_w, i32_w]
        rfl
      refine done_ (by kernel_rfl) ?_
      go_wp2
      go_roundg gl
      case measure => exact Nat.lt_succ_self _
      case rel => exact ⟨i + 1, _, by first | rfl | go_num, ⟨by have := HI.out; omega⟩, HW9, HL⟩
end Go.Proofs.Ytdgemabmmomebaa.PAxis

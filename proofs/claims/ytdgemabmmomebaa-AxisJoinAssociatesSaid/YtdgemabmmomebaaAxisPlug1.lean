/- The writer of axis: what flush does to it. -/
import Derived.Test.YtdgemabmmomebaaPAxisx0
import Derived.Test.YtdgemabmmomebaaWTab
namespace Go.Proofs.Ytdgemabmmomebaa.PAxis
open Go.RowKit Go.Proofs.YtdgemabmmomebaaW.PrintWords Go.Proofs.YtdgemabmmomebaaW.PrintLast Go.Proofs.YtdgemabmmomebaaW.PrintMore
set_option linter.unusedVariables false
set_option linter.unusedSimpArgs false

/-- From wI to w nothing has been written but the block g, the row that vI begins, and what is new. -/
structure Moves (wI w : World) (g : Nat) (vI v : Value) : Prop where
  size : wI.heap.size ≤ w.heap.size
  frame : ∀ k, k < wI.heap.size → k ≠ g → some k ≠ vI.ownBlock → w.heap[k]? = wI.heap[k]?
  own : v.ownBlock = vI.ownBlock ∨ ∃ b, v.ownBlock = some b ∧ wI.heap.size ≤ b
theorem Moves.refl (w : World) (g : Nat) (v : Value) : Moves w w g v v := ⟨Nat.le_refl _, fun _ _ _ _ => rfl, .inl rfl⟩
theorem Moves.trans {a b c : World} {g : Nat} {u v x : Value} (h : Moves a b g u v) (k : Moves b c g v x) : Moves a c g u x := by
  refine ⟨Nat.le_trans h.size k.size, fun i hi hg hu => ?_, ?_⟩
  · rw [k.frame i (Nat.lt_of_lt_of_le hi h.size) hg, h.frame i hi hg hu]
    rcases h.own with e | ⟨b, e, hb⟩
    · rw [e]; exact hu
    · rw [e]; intro h'; injection h' with h'; omega
  · rcases k.own with e | ⟨b, e, hb⟩
    · rw [e]; exact h.own
    · exact .inr ⟨b, e, Nat.le_trans h.size hb⟩
/-- The writer at block g: its row v reads as out. -/
structure WrSt (w0 wI : World) (g : Nat) (vI : Value) (out : List S97) (add cut : Int) (v : Value) (w : World) : Prop where
  blk : w.heap[g]? = some (.cells #[v, .int .i64 add, .int .i64 cut] 107 (0, 0))
  row : Kd.R k97 97 w w0.heap.size (fun _ => True) v out
  bel : Below w0.heap.size w0 w
  mv : Moves wI w g vI v
section
variable {w0 wI w w1 : World} {g : Nat} {vI v v1 : Value} {out out' : List S97} {add cut : Int}
theorem WrSt.drewN (h : WrSt w0 wI g vI out add cut v w) (n : Nat) : WrSt w0 wI g vI out add cut v (w.drewN n) :=
  ⟨blk_drewN h.blk n, Kd.R_drewN h.row n, pw_below_drewN h.bel n, ⟨h.mv.size, h.mv.frame, h.mv.own⟩⟩
theorem WrSt.drew (h : WrSt w0 wI g vI out add cut v w) : WrSt w0 wI g vI out add cut v w.drew :=
  ⟨blk_drew h.blk, Kd.R_drew h.row, below_drew1 h.bel, ⟨h.mv.size, h.mv.frame, h.mv.own⟩⟩
/-- The row has been appended to; then it is stored back. -/
theorem WrSt.app (h : WrSt w0 wI g vI out add cut v w) (h0 : w0.heap.size ≤ g) (hR : Kd.R k97 97 w1 w0.heap.size (fun _ => True) v1 out') (hB : Below w0.heap.size w0 w1) (hg : w.grownBy w1 v.ownBlock)
    (hat : v1.ownBlock = v.ownBlock ∨ ∃ b, v1.ownBlock = some b ∧ w.heap.size ≤ b) :
    w1.heap[g]? = some (.cells #[v, .int .i64 add, .int .i64 cut] 107 (0, 0)) ∧ WrSt w0 wI g vI out' add cut v1 (w1.setCell ⟨g, 0, none⟩ v1) := by
  have hb := blk_grown h.blk hg (Kd.R_ne h.row h.blk (by decide))
  refine ⟨hb, blk_put hb 0 v1 rfl, Kd.R_set hR hb (by decide) 0 v1, below_set hB h0, ?_⟩
  refine ⟨by have := h.mv.size; have := hg.size; simp [World.setCell]; omega, fun k hk hgk hv => ?_, ?_⟩
  · rw [Below.heap_setCell _ _ _ _ hgk, hg.block k (Nat.lt_of_lt_of_le hk h.mv.size), h.mv.frame k hk hgk hv]
    rcases h.mv.own with e | ⟨b, e, hb⟩
    · rw [e]; exact hv
    · rw [e]; intro h'; injection h' with h'; omega
  · rcases hat with e | ⟨b, e, hb⟩
    · rw [e]; exact h.mv.own
    · exact .inr ⟨b, e, Nat.le_trans h.mv.size hb⟩
theorem WrSt.put1 (h : WrSt w0 wI g vI out add cut v w) (h0 : w0.heap.size ≤ g) (x : Int) : WrSt w0 wI g vI out x cut v (w.setCell ⟨g, 1, none⟩ (.int .i64 x)) :=
  ⟨blk_put h.blk 1 _ rfl, Kd.R_set h.row h.blk (by decide) 1 _, below_set h.bel h0, ⟨by have := h.mv.size; simp [World.setCell]; omega, fun k hk hgk hv => by rw [Below.heap_setCell _ _ _ _ hgk, h.mv.frame k hk hgk hv], h.mv.own⟩⟩
theorem WrSt.put2 (h : WrSt w0 wI g vI out add cut v w) (h0 : w0.heap.size ≤ g) (x : Int) : WrSt w0 wI g vI out add x v (w.setCell ⟨g, 2, none⟩ (.int .i64 x)) :=
  ⟨blk_put h.blk 2 _ rfl, Kd.R_set h.row h.blk (by decide) 2 _, below_set h.bel h0, ⟨by have := h.mv.size; simp [World.setCell]; omega, fun k hk hgk hv => by rw [Below.heap_setCell _ _ _ _ hgk, h.mv.frame k hk hgk hv], h.mv.own⟩⟩
end

def app1 (out : List S97) (kind n : Int) : List S97 := if 0 < n then out ++ [⟨kind, n⟩] else out
def flushL (out : List S97) (add cut : Int) : List S97 := app1 (app1 out 1 add) 2 cut

set_option maxRecDepth 100000 in
set_option maxHeartbeats 8000000 in
theorem flush_calls (w0 : World) (g : Nat) (out : List S97) (add cut : Int) (vI : Value) (w : World) (h0 : w0.heap.size ≤ g) (h : WrSt w0 w g vI out add cut vI w) (hl : (out.length + 2) * 16 ≤ 140737488355328) :
    Calls Try.prog 108 #[.pointer (some ⟨g, 0, none⟩)] w fun e w' => e = .returned (.tuple #[]) ∧ ∃ v, WrSt w0 w g vI (flushL out add cut) 0 0 v w' := by
  have hu97 := Try.underlying97
  have hu107 := Try.underlying107
  obtain ⟨AI, cI, hvI, hx⟩ := Kd.R_reads h.row
  clear hx
  subst hvI
  have HS := Aside0.mk h
  have H0 := Aside0.mk h0
  have HL := Aside0.mk hl
  clear h h0 hl
  obtain ⟨ta, hta⟩ : ∃ t : Bool, decide (0 < add) = t := ⟨_, rfl⟩
  have hc0 : w.cell? ⟨g, 0, none⟩ = some (.slice AI out.length cI) := (blk_cell HS.out.blk 0).trans rfl
  have hc1 : w.cell? ⟨g, 1, none⟩ = some (.int .i64 add) := (blk_cell HS.out.blk 1).trans rfl
  have hc2 : w.cell? ⟨g, 2, none⟩ = some (.int .i64 cut) := (blk_cell HS.out.blk 2).trans rfl
  go_enter Try.func108, Try.ntmps108
  go_upto_if 6 with (fail)
  go_cut [] (fun wc => ∃ (A1 : Option Addr) (n1 : Nat), Aside0 (WrSt w0 w g (.slice AI out.length cI) (app1 out 1 add) add cut (.slice A1 (app1 out 1 add).length n1) wc))
  case first =>
    cases ta with
    | false =>
      have hadd := of_decide_eq_false hta
      have e : app1 out 1 add = out := if_neg hadd
      go_wp2
      go_meet
      case rel => exact ⟨AI, cI, ⟨by rw [e]; exact HS.out⟩⟩
    | true =>
      have hadd := of_decide_eq_true hta
      have e : app1 out 1 add = out ++ [⟨1, add⟩] := if_pos hadd
      have HE := Aside0.mk e
      clear hadd e
      have HD := Aside0.mk HS.out.drew
      go_upto_region 1 with (fail)
      refine start_ (n := 15) (S := fun w' => w'.cell? ⟨g, 0, none⟩ = some (.slice AI out.length cI) ∧ w'.cell? ⟨g, 1, none⟩ = some (.int .i64 add)) (ds := [14]) #[false, false, false, false, false, false, false, false, false, false, false, false, false, false, false] (by kernel_rfl) rfl rfl ⟨((blk_cell HD.out.blk 0).trans rfl), ((blk_cell HD.out.blk 1).trans rfl)⟩ (fun hHeld => ?_)
      refine pure_ (i := 0) (N := some 7) (v := ?_) (a' := ?_) #[true, false, false, false, false, false, false, false, false, false, false, false, false, false, false] rfl rfl (by kernel_rfl) (fun _ _ _ h => h) (Or.inl ⟨by rfl, ?_⟩) ?_ ?_
      rotate_left
      · intro w'
        go_simp
        with_reducible rfl
      rotate_left
      · simp only [Act.put, List.setIfInBounds_toArray, List.set_cons_zero, List.set_cons_succ, i64_w, i32_w]
        rfl
      refine pure_ (i := 1) (N := some 8) (v := ?_) (a' := ?_) #[true, true, false, false, false, false, false, false, false, false, false, false, false, false, false] rfl rfl (by kernel_rfl) (fun _ _ _ h => h) (Or.inl ⟨by rfl, ?_⟩) ?_ ?_
      rotate_left
      · intro w'
        go_simp
        with_reducible rfl
      rotate_left
      · simp only [Act.put, List.setIfInBounds_toArray, List.set_cons_zero, List.set_cons_succ, i64_w, i32_w]
        rfl
      refine pure_ (i := 2) (N := some 9) (v := ?_) (a' := ?_) #[true, true, true, false, false, false, false, false, false, false, false, false, false, false, false] rfl rfl (by kernel_rfl) (fun _ _ _ h => h) (Or.inl ⟨by rfl, ?_⟩) ?_ ?_
      rotate_left
      · intro w'
        go_simp
        with_reducible rfl
      rotate_left
      · simp only [Act.put, List.setIfInBounds_toArray, List.set_cons_zero, List.set_cons_succ, i64_w, i32_w]
        rfl
      refine pure_ (i := 3) (N := some 10) (v := ?_) (a' := ?_) #[true, true, true, true, false, false, false, false, false, false, false, false, false, false, false] rfl rfl (by kernel_rfl) (fun _ _ _ h => h) (Or.inl ⟨by rfl, ?_⟩) ?_ ?_
      rotate_left
      · intro w'
        go_simp
        with_reducible rfl
      rotate_left
      · simp only [Act.put, List.setIfInBounds_toArray, List.set_cons_zero, List.set_cons_succ, i64_w, i32_w]
        rfl
      refine pure_ (i := 5) (N := some 12) (v := ?_) (a' := ?_) #[true, true, true, true, false, true, false, false, false, false, false, false, false, false, false] rfl rfl (by kernel_rfl) (fun _ _ _ h => h) (Or.inl ⟨by rfl, ?_⟩) ?_ ?_
      rotate_left
      · intro w'
        go_simp
        with_reducible rfl
      rotate_left
      · simp only [Act.put, List.setIfInBounds_toArray, List.set_cons_zero, List.set_cons_succ, i64_w, i32_w]
        rfl
      refine pure_ (i := 6) (N := some 13) (v := ?_) (a' := ?_) #[true, true, true, true, false, true, true, false, false, false, false, false, false, false, false] rfl rfl (by kernel_rfl) (fun _ _ _ h => h) (Or.inl ⟨by rfl, ?_⟩) ?_ ?_
      rotate_left
      · intro w'
        go_simp
        with_reducible rfl
      rotate_left
      · simp only [Act.put, List.setIfInBounds_toArray, List.set_cons_zero, List.set_cons_succ, i64_w, i32_w]
        rfl
      refine pure_ (i := 7) (N := some 14) (v := ?_) (a' := ?_) #[true, true, true, true, false, true, true, true, false, false, false, false, false, false, false] rfl rfl (by kernel_rfl) (fun _ _ _ h => h) (Or.inl ⟨by rfl, ?_⟩) ?_ ?_
      rotate_left
      · intro w'
        go_simp
        with_reducible rfl
      rotate_left
      · simp only [Act.put, List.setIfInBounds_toArray, List.set_cons_zero, List.set_cons_succ, i64_w, i32_w]
        rfl
      refine take_ (i := 4) (N := some 11) (v := ?_) (a' := ?_) #[true, true, true, true, true, true, true, true, false, false, false, false, false, false, false] rfl rfl (by kernel_rfl) (fun _ _ _ h => h) (Or.inl ⟨by rfl, ?_⟩) hHeld ?_ ?_
      rotate_left
      · rintro w' ⟨s0, s1⟩
        go_simp
        with_reducible rfl
      rotate_left
      · simp only [Act.put, List.setIfInBounds_toArray, List.set_cons_zero, List.set_cons_succ, i64_w, i32_w]
        rfl
      refine take_ (i := 8) (N := some 15) (v := ?_) (a' := ?_) #[true, true, true, true, true, true, true, true, true, false, false, false, false, false, false] rfl rfl (by kernel_rfl) (fun _ _ _ h => h) (Or.inl ⟨by rfl, ?_⟩) hHeld ?_ ?_
      rotate_left
      · rintro w' ⟨s0, s1⟩
        go_simp
        with_reducible rfl
      rotate_left
      · simp only [Act.put, List.setIfInBounds_toArray, List.set_cons_zero, List.set_cons_succ, i64_w, i32_w]
        rfl
      refine pure_ (i := 9) (N := some 16) (v := ?_) (a' := ?_) #[true, true, true, true, true, true, true, true, true, true, false, false, false, false, false] rfl rfl (by kernel_rfl) (fun _ _ _ h => h) (Or.inl ⟨by rfl, ?_⟩) ?_ ?_
      rotate_left
      · intro w'
        go_simp
        with_reducible rfl
      rotate_left
      · simp only [Act.put, List.setIfInBounds_toArray, List.set_cons_zero, List.set_cons_succ, i64_w, i32_w]
        rfl
      refine one_ (i := 10) (N := some 17) #[true, true, true, true, true, true, true, true, true, true, true, false, false, false, false] rfl rfl (by kernel_rfl) (by decide) (fun K hK => ?_)
      refine value_ (w1 := ?_) (v := ?_) (by rfl) rfl ?_ ?_
      rotate_left 2
      · go_simp
        constructor
        · rfl
        · rfl
      refine hK.out _ _ ⟨((blk_cell (blk_alloc HD.out.blk _) 0).trans rfl), ((blk_cell (blk_alloc HD.out.blk _) 1).trans rfl)⟩ (fun hHeld => ?_)
      clear hK K
      refine norm_ (a' := ?_) ?_ ?_
      rotate_left
      · show Act.put _ (some 17) _ = _
        simp only [Act.put, List.setIfInBounds_toArray, List.set_cons_zero, List.set_cons_succ, i64_w, i32_w]
        rfl
      refine one_ (i := 11) (N := some 18) #[true, true, true, true, true, true, true, true, true, true, true, true, false, false, false] rfl rfl (by kernel_rfl) (by decide) (fun K hK => ?_)
      refine Kd.R_append_step k97 (w0 := w0) w0.heap.size (by rfl) (.tmp 11) (.tmp 17) 44 97 (.agg #[.int .i64 0, .int .i64 0]) 16 rfl Try.underlying44 info97 rfl (by decide) (by decide) _ out ⟨1, add⟩ [.int .i64 1, .int .i64 add] (fun _ => True) (fun _ => False) (by rfl) (by rfl) (k97_mkM _ _ _ _) (fun _ h => h.elim) (fun _ _ => trivial) HD.out.row HD.out.bel HD.out.bel.size (by have := HL.out; omega) ?_
      intro v1 w1 hR1 hB1 hg hat
      obtain ⟨A1, n1, rfl⟩ := Kd.R_slice hR1
      obtain ⟨hb1, hW⟩ := HD.out.app H0.out hR1 hB1 hg hat
      have HW := Aside0.mk hW
      have hd0 : w1.cell? ⟨g, 0, none⟩ = _ := (blk_cell hb1 0).trans rfl
      have hd1 : w1.cell? ⟨g, 1, none⟩ = some (.int .i64 add) := (blk_cell hb1 1).trans rfl
      have hdf := blk_frozen hb1 0
      clear hR1 hB1 hg hat hb1 hW
      refine hK.out _ _ ⟨hd0, hd1⟩ (fun hHeld => ?_)
      clear hK K
      refine norm_ (a' := ?_) ?_ ?_
      rotate_left
      · show Act.put _ (some 18) _ = _
        simp only [Act.put, List.setIfInBounds_toArray, List.set_cons_zero, List.set_cons_succ, i64_w, i32_w]
        rfl
      refine pure_ (i := 12) (N := some 19) (v := ?_) (a' := ?_) #[true, true, true, true, true, true, true, true, true, true, true, true, true, false, false] rfl rfl (by kernel_rfl) (fun _ _ _ h => h) (Or.inl ⟨by rfl, ?_⟩) ?_ ?_
      rotate_left
      · intro w'
        go_simp
        with_reducible rfl
      rotate_left
      · simp only [Act.put, List.setIfInBounds_toArray, List.set_cons_zero, List.set_cons_succ, i64_w, i32_w]
        rfl
      refine pure_ (i := 13) (N := some 20) (v := ?_) (a' := ?_) #[true, true, true, true, true, true, true, true, true, true, true, true, true, true, false] rfl rfl (by kernel_rfl) (fun _ _ _ h => h) (Or.inl ⟨by rfl, ?_⟩) ?_ ?_
      rotate_left
      · intro w'
        go_simp
        with_reducible rfl
      rotate_left
      · simp only [Act.put, List.setIfInBounds_toArray, List.set_cons_zero, List.set_cons_succ, i64_w, i32_w]
        rfl
      refine last_ (i := 14) (N := none) #[true, true, true, true, true, true, true, true, true, true, true, true, true, true, true] rfl rfl (by kernel_rfl) (by decide) (fun K hK => ?_)
      refine skip_ (w1 := ?_) (by rfl) rfl ?_ ?_
      rotate_left
      · go_simp
        rfl
      refine hK.out _ _ ?_
      clear hK K
      refine done_ (by kernel_rfl) ?_

      go_wp2
      go_meet
      case rel => exact ⟨A1, n1, ⟨by rw [HE.out]; simpa using HW.out⟩⟩
  case rest =>
    clear hta hc0 hc1 hc2
    obtain ⟨A2, n2, HS2⟩ := hcut
    obtain ⟨l2, hl2⟩ : ∃ l : List S97, l = app1 out 1 add := ⟨_, rfl⟩
    have hlen : l2.length ≤ out.length + 1 := by rw [hl2]; unfold app1; split <;> simp
    have HLEN := Aside0.mk hlen
    rw [← hl2] at HS2
    have HL2 := Aside0.mk hl2
    clear hl2 hlen
    obtain ⟨tb, htb⟩ : ∃ t : Bool, decide (0 < cut) = t := ⟨_, rfl⟩
    have hc0 : wc.cell? ⟨g, 0, none⟩ = some (.slice A2 l2.length n2) := (blk_cell HS2.out.blk 0).trans rfl
    have hc1 : wc.cell? ⟨g, 1, none⟩ = some (.int .i64 add) := (blk_cell HS2.out.blk 1).trans rfl
    have hc2 : wc.cell? ⟨g, 2, none⟩ = some (.int .i64 cut) := (blk_cell HS2.out.blk 2).trans rfl
    go_upto_if 25 with (fail)
    go_cut [] (fun we => ∃ (A1 : Option Addr) (n1 : Nat), Aside0 (WrSt w0 w g (.slice AI out.length cI) (app1 l2 2 cut) add cut (.slice A1 (app1 l2 2 cut).length n1) we))
    case first =>
      cases tb with
      | false =>
        have hadd := of_decide_eq_false htb
        have e : app1 l2 2 cut = l2 := if_neg hadd
        go_wp2
        go_meet
        case rel => exact ⟨A2, n2, ⟨by rw [e]; exact HS2.out⟩⟩
      | true =>
        have hadd := of_decide_eq_true htb
        have e : app1 l2 2 cut = l2 ++ [⟨2, cut⟩] := if_pos hadd
        have HE := Aside0.mk e
        clear hadd e
        have HD := Aside0.mk HS2.out.drew
        go_upto_region 3 with (fail)
        refine start_ (n := 15) (S := fun w' => w'.cell? ⟨g, 0, none⟩ = some (.slice A2 l2.length n2) ∧ w'.cell? ⟨g, 2, none⟩ = some (.int .i64 cut)) (ds := [14]) #[false, false, false, false, false, false, false, false, false, false, false, false, false, false, false] (by kernel_rfl) rfl rfl ⟨((blk_cell HD.out.blk 0).trans rfl), ((blk_cell HD.out.blk 2).trans rfl)⟩ (fun hHeld => ?_)
        refine pure_ (i := 0) (N := some 26) (v := ?_) (a' := ?_) #[true, false, false, false, false, false, false, false, false, false, false, false, false, false, false] rfl rfl (by kernel_rfl) (fun _ _ _ h => h) (Or.inl ⟨by rfl, ?_⟩) ?_ ?_
        rotate_left
        · intro w'
          go_simp
          with_reducible rfl
        rotate_left
        · simp only [Act.put, List.setIfInBounds_toArray, List.set_cons_zero, List.set_cons_succ, i64_w, i32_w]
          rfl
        refine pure_ (i := 1) (N := some 27) (v := ?_) (a' := ?_) #[true, true, false, false, false, false, false, false, false, false, false, false, false, false, false] rfl rfl (by kernel_rfl) (fun _ _ _ h => h) (Or.inl ⟨by rfl, ?_⟩) ?_ ?_
        rotate_left
        · intro w'
          go_simp
          with_reducible rfl
        rotate_left
        · simp only [Act.put, List.setIfInBounds_toArray, List.set_cons_zero, List.set_cons_succ, i64_w, i32_w]
          rfl
        refine pure_ (i := 2) (N := some 28) (v := ?_) (a' := ?_) #[true, true, true, false, false, false, false, false, false, false, false, false, false, false, false] rfl rfl (by kernel_rfl) (fun _ _ _ h => h) (Or.inl ⟨by rfl, ?_⟩) ?_ ?_
        rotate_left
        · intro w'
          go_simp
          with_reducible rfl
        rotate_left
        · simp only [Act.put, List.setIfInBounds_toArray, List.set_cons_zero, List.set_cons_succ, i64_w, i32_w]
          rfl
        refine pure_ (i := 3) (N := some 29) (v := ?_) (a' := ?_) #[true, true, true, true, false, false, false, false, false, false, false, false, false, false, false] rfl rfl (by kernel_rfl) (fun _ _ _ h => h) (Or.inl ⟨by rfl, ?_⟩) ?_ ?_
        rotate_left
        · intro w'
          go_simp
          with_reducible rfl
        rotate_left
        · simp only [Act.put, List.setIfInBounds_toArray, List.set_cons_zero, List.set_cons_succ, i64_w, i32_w]
          rfl
        refine pure_ (i := 5) (N := some 31) (v := ?_) (a' := ?_) #[true, true, true, true, false, true, false, false, false, false, false, false, false, false, false] rfl rfl (by kernel_rfl) (fun _ _ _ h => h) (Or.inl ⟨by rfl, ?_⟩) ?_ ?_
        rotate_left
        · intro w'
          go_simp
          with_reducible rfl
        rotate_left
        · simp only [Act.put, List.setIfInBounds_toArray, List.set_cons_zero, List.set_cons_succ, i64_w, i32_w]
          rfl
        refine pure_ (i := 6) (N := some 32) (v := ?_) (a' := ?_) #[true, true, true, true, false, true, true, false, false, false, false, false, false, false, false] rfl rfl (by kernel_rfl) (fun _ _ _ h => h) (Or.inl ⟨by rfl, ?_⟩) ?_ ?_
        rotate_left
        · intro w'
          go_simp
          with_reducible rfl
        rotate_left
        · simp only [Act.put, List.setIfInBounds_toArray, List.set_cons_zero, List.set_cons_succ, i64_w, i32_w]
          rfl
        refine pure_ (i := 7) (N := some 33) (v := ?_) (a' := ?_) #[true, true, true, true, false, true, true, true, false, false, false, false, false, false, false] rfl rfl (by kernel_rfl) (fun _ _ _ h => h) (Or.inl ⟨by rfl, ?_⟩) ?_ ?_
        rotate_left
        · intro w'
          go_simp
          with_reducible rfl
        rotate_left
        · simp only [Act.put, List.setIfInBounds_toArray, List.set_cons_zero, List.set_cons_succ, i64_w, i32_w]
          rfl
        refine take_ (i := 4) (N := some 30) (v := ?_) (a' := ?_) #[true, true, true, true, true, true, true, true, false, false, false, false, false, false, false] rfl rfl (by kernel_rfl) (fun _ _ _ h => h) (Or.inl ⟨by rfl, ?_⟩) hHeld ?_ ?_
        rotate_left
        · rintro w' ⟨s0, s1⟩
          go_simp
          with_reducible rfl
        rotate_left
        · simp only [Act.put, List.setIfInBounds_toArray, List.set_cons_zero, List.set_cons_succ, i64_w, i32_w]
          rfl
        refine take_ (i := 8) (N := some 34) (v := ?_) (a' := ?_) #[true, true, true, true, true, true, true, true, true, false, false, false, false, false, false] rfl rfl (by kernel_rfl) (fun _ _ _ h => h) (Or.inl ⟨by rfl, ?_⟩) hHeld ?_ ?_
        rotate_left
        · rintro w' ⟨s0, s1⟩
          go_simp
          with_reducible rfl
        rotate_left
        · simp only [Act.put, List.setIfInBounds_toArray, List.set_cons_zero, List.set_cons_succ, i64_w, i32_w]
          rfl
        refine pure_ (i := 9) (N := some 35) (v := ?_) (a' := ?_) #[true, true, true, true, true, true, true, true, true, true, false, false, false, false, false] rfl rfl (by kernel_rfl) (fun _ _ _ h => h) (Or.inl ⟨by rfl, ?_⟩) ?_ ?_
        rotate_left
        · intro w'
          go_simp
          with_reducible rfl
        rotate_left
        · simp only [Act.put, List.setIfInBounds_toArray, List.set_cons_zero, List.set_cons_succ, i64_w, i32_w]
          rfl
        refine one_ (i := 10) (N := some 36) #[true, true, true, true, true, true, true, true, true, true, true, false, false, false, false] rfl rfl (by kernel_rfl) (by decide) (fun K hK => ?_)
        refine value_ (w1 := ?_) (v := ?_) (by rfl) rfl ?_ ?_
        rotate_left 2
        · go_simp
          constructor
          · rfl
          · rfl
        refine hK.out _ _ ⟨((blk_cell (blk_alloc HD.out.blk _) 0).trans rfl), ((blk_cell (blk_alloc HD.out.blk _) 2).trans rfl)⟩ (fun hHeld => ?_)
        clear hK K
        refine norm_ (a' := ?_) ?_ ?_
        rotate_left
        · show Act.put _ (some 36) _ = _
          simp only [Act.put, List.setIfInBounds_toArray, List.set_cons_zero, List.set_cons_succ, i64_w, i32_w]
          rfl
        refine one_ (i := 11) (N := some 37) #[true, true, true, true, true, true, true, true, true, true, true, true, false, false, false] rfl rfl (by kernel_rfl) (by decide) (fun K hK => ?_)
        refine Kd.R_append_step k97 (w0 := w0) w0.heap.size (by rfl) (.tmp 30) (.tmp 36) 44 97 (.agg #[.int .i64 0, .int .i64 0]) 16 rfl Try.underlying44 info97 rfl (by decide) (by decide) _ l2 ⟨2, cut⟩ [.int .i64 2, .int .i64 cut] (fun _ => True) (fun _ => False) (by rfl) (by rfl) (k97_mkM _ _ _ _) (fun _ h => h.elim) (fun _ _ => trivial) HD.out.row HD.out.bel HD.out.bel.size (by have := HL.out; have := HLEN.out; omega) ?_
        intro v1 w1 hR1 hB1 hg hat
        obtain ⟨A1, n1, rfl⟩ := Kd.R_slice hR1
        obtain ⟨hb1, hW⟩ := HD.out.app H0.out hR1 hB1 hg hat
        have HW := Aside0.mk hW
        have hd0 : w1.cell? ⟨g, 0, none⟩ = _ := (blk_cell hb1 0).trans rfl
        have hd1 : w1.cell? ⟨g, 2, none⟩ = some (.int .i64 cut) := (blk_cell hb1 2).trans rfl
        have hdf := blk_frozen hb1 0
        clear hR1 hB1 hg hat hb1 hW
        refine hK.out _ _ ⟨hd0, hd1⟩ (fun hHeld => ?_)
        clear hK K
        refine norm_ (a' := ?_) ?_ ?_
        rotate_left
        · show Act.put _ (some 37) _ = _
          simp only [Act.put, List.setIfInBounds_toArray, List.set_cons_zero, List.set_cons_succ, i64_w, i32_w]
          rfl
        refine pure_ (i := 12) (N := some 38) (v := ?_) (a' := ?_) #[true, true, true, true, true, true, true, true, true, true, true, true, true, false, false] rfl rfl (by kernel_rfl) (fun _ _ _ h => h) (Or.inl ⟨by rfl, ?_⟩) ?_ ?_
        rotate_left
        · intro w'
          go_simp
          with_reducible rfl
        rotate_left
        · simp only [Act.put, List.setIfInBounds_toArray, List.set_cons_zero, List.set_cons_succ, i64_w, i32_w]
          rfl
        refine pure_ (i := 13) (N := some 39) (v := ?_) (a' := ?_) #[true, true, true, true, true, true, true, true, true, true, true, true, true, true, false] rfl rfl (by kernel_rfl) (fun _ _ _ h => h) (Or.inl ⟨by rfl, ?_⟩) ?_ ?_
        rotate_left
        · intro w'
          go_simp
          with_reducible rfl
        rotate_left
        · simp only [Act.put, List.setIfInBounds_toArray, List.set_cons_zero, List.set_cons_succ, i64_w, i32_w]
          rfl
        refine last_ (i := 14) (N := none) #[true, true, true, true, true, true, true, true, true, true, true, true, true, true, true] rfl rfl (by kernel_rfl) (by decide) (fun K hK => ?_)
        refine skip_ (w1 := ?_) (by rfl) rfl ?_ ?_
        rotate_left
        · go_simp
          rfl
        refine hK.out _ _ ?_
        clear hK K
        refine done_ (by kernel_rfl) ?_

        go_wp2
        go_meet
        case rel => exact ⟨A1, n1, ⟨by rw [HE.out]; simpa using HW.out⟩⟩
    case rest =>
      clear htb hc0 hc1 hc2
      obtain ⟨A3, n3, HS3⟩ := hcut
      have HS4 := Aside0.mk ((HS3.out.put1 H0.out 0).put2 H0.out 0)
      have hc1 := (blk_cell HS3.out.blk 1).trans rfl
      have hc2 := (blk_cell HS3.out.blk 2).trans rfl
      have hf1 := blk_frozen HS3.out.blk 1
      have hf2 := blk_frozen HS3.out.blk 2
      go_wp2
      go_end0
      exact ⟨rfl, _, by unfold flushL; rw [← HL2.out]; exact HS4.out⟩
end Go.Proofs.Ytdgemabmmomebaa.PAxis

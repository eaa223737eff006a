/- The writer of axis: put and done. -/
import Derived.Test.YtdgemabmmomebaaAxisPlug3
import Derived.Test.YtdgemabmmomebaaPAxisx2
namespace Go.Proofs.Ytdgemabmmomebaa.PAxis
open Go.RowKit Go.Proofs.YtdgemabmmomebaaW.PrintWords Go.Proofs.YtdgemabmmomebaaW.PrintLast Go.Proofs.YtdgemabmmomebaaW.PrintMore
set_option linter.unusedVariables false
set_option linter.unusedSimpArgs false

theorem R97_own {e : Nat} {w : World} {base : Nat} {ok : Nat → Prop} {v : Value} {xs : List S97} (h : Kd.R k97 e w base ok v xs) : Kd.R k97 e w base (fun k => v.ownBlock = some k) v xs :=
  ⟨fun k hk => hk, h.2.imp_ (fun _ _ hp => by obtain rfl := k97_openM hp; exact k97_mkM _ _ _ _)⟩

theorem put_calls (w0 : World) (g : Nat) (s : WS) (kind n : Int) (vI : Value) (w : World) (h0 : w0.heap.size ≤ g) (h : WrSt w0 w g vI s.out s.add s.cut vI w) (hl : (s.out.length + 3) * 16 ≤ 140737488355328) :
    Calls Try.prog 75 #[.pointer (some ⟨g, 0, none⟩), .int .i64 kind, .int .i64 n] w fun e w' => e = .returned (.tuple #[]) ∧ ∃ v, WrSt w0 w g vI (putL s kind n).out (putL s kind n).add (putL s kind n).cut v w' := by
  by_cases c : n = 0 ∨ kind = 1 ∨ kind = 2
  · exact put_small w0 g s.out s.add s.cut kind n vI w h0 h c
  · have c0 : n ≠ 0 := fun e => c (.inl e)
    have c1 : kind ≠ 1 := fun e => c (.inr (.inl e))
    have c2 : kind ≠ 2 := fun e => c (.inr (.inr e))
    have e : putL s kind n = ⟨keepL (flushL s.out s.add s.cut) n, 0, 0⟩ := by unfold putL; rw [if_neg c0, if_neg c1, if_neg c2]
    rw [e]
    exact put_keep w0 g s.out s.add s.cut kind n vI w h0 h hl c0 c1 c2

/-- What done returns. -/
def doneF (k : Nat) (s : WS) : Option (List S97 × Int) := (axis_Check.f k (flushL s.out s.add s.cut)).bind fun e => if e ≠ 0 then some ([], 3) else some (flushL s.out s.add s.cut, 0)
theorem doneF_mono (s : WS) (k : Nat) : LeO (doneF k s) (doneF (k + 1) s) := LeO.bind (axis_Check.mono _ k) (fun _ => LeO.refl _)

set_option maxRecDepth 100000 in
set_option maxHeartbeats 4000000 in
theorem done_calls (k : Nat) (w0 : World) (g : Nat) (s : WS) (r1 : List S97) (r2 : Int) (vI : Value) (w : World) (h0 : w0.heap.size ≤ g) (h : WrSt w0 w g vI s.out s.add s.cut vI w) (hl : (s.out.length + 3) * 16 ≤ 140737488355328) (hf : doneF k s = some (r1, r2)) :
    Calls Try.prog 78 #[.pointer (some ⟨g, 0, none⟩)] w fun e w' => ∃ v, e = .returned (.tuple #[v, .int .i64 r2]) ∧ Kd.R k97 97 w' w0.heap.size (fun _ => True) v r1 ∧ Below w0.heap.size w0 w' ∧ ∃ vM, Moves w w' g vI vM ∧ (v.ownBlock = none ∨ v = vM) := by
  have hu97 := Try.underlying97
  have hu107 := Try.underlying107
  have HF := Aside0.mk (flush_calls w0 g s.out s.add s.cut vI w h0 h (by omega))
  rw [doneF] at hf
  obtain ⟨o, ho⟩ : ∃ o, o = flushL s.out s.add s.cut := ⟨_, rfl⟩
  rw [← ho] at HF hf
  clear ho h hl
  replace hf := Option.bind_eq_some_iff.1 hf
  obtain ⟨e, he, hf⟩ := hf
  have HE := Aside0.mk he
  clear he
  by_cases c1 : e ≠ 0
  · rw [if_pos c1] at hf
    have c1b : (e != 0) = true := bne_iff_ne.mpr c1
    simp only [Option.some.injEq, Prod.mk.injEq] at hf
    obtain ⟨rfl, rfl⟩ := hf
    clear c1
    go_enter Try.func78, Try.ntmps78
    go_wp2_with (go_at_call 108; refine HF.out.mono ?_)
    rintro e1 w1 ⟨rfl, v, hS⟩
    obtain ⟨A1, n1, rfl⟩ := Kd.R_slice hS.row
    have HS := Aside0.mk hS
    have hc0 : w1.cell? ⟨g, 0, none⟩ = some (.slice A1 o.length n1) := (blk_cell HS.out.blk 0).trans rfl
    clear hS HF
    go_wp2_with (go_at_call 72; (with_reducible refine (axis_Check.calls k _ _ o e _ (Kd.R_reads' HS.out.row).2.2 (Kd.R_reads' HS.out.row).2.1 HE.out).mono ?_); rintro e1 w2 ⟨rfl, hb⟩; have HB2 := Aside0.mk hb; clear hb)
    first | go_ret | go_ret2
    refine ⟨_, rfl, Kd.R_nil _ _ _ _ _, below_step HS.out.bel HB2.out, ?_⟩
    have hm := HS.out.mv
    exact ⟨_, ⟨Nat.le_trans hm.size HB2.out.size, fun k hk hg hv => (HB2.out.block k (Nat.lt_of_lt_of_le hk hm.size)).trans (hm.frame k hk hg hv), hm.own⟩, .inl rfl⟩
  · rw [if_neg c1] at hf
    have c1b : (e != 0) = false := by simpa using c1
    simp only [Option.some.injEq, Prod.mk.injEq] at hf
    obtain ⟨rfl, rfl⟩ := hf
    clear c1
    go_enter Try.func78, Try.ntmps78
    go_wp2_with (go_at_call 108; refine HF.out.mono ?_)
    rintro e1 w1 ⟨rfl, v, hS⟩
    obtain ⟨A1, n1, rfl⟩ := Kd.R_slice hS.row
    have HS := Aside0.mk hS
    have hc0 : w1.cell? ⟨g, 0, none⟩ = some (.slice A1 o.length n1) := (blk_cell HS.out.blk 0).trans rfl
    have hglt := blk_lt hS.blk
    clear hS HF
    go_wp2_with (go_at_call 72; (with_reducible refine (axis_Check.calls k _ _ o e _ (Kd.R_reads' HS.out.row).2.2 (Kd.R_reads' HS.out.row).2.1 HE.out).mono ?_); rintro e1 w2 ⟨rfl, hb⟩; have HB2 := Aside0.mk hb; clear hb; replace hc0 := (HB2.out.cell hglt).trans hc0)
    first | go_ret | go_ret2
    refine ⟨_, rfl, Kd.R_below HS.out.row HB2.out, below_step HS.out.bel HB2.out, ?_⟩
    have hm := HS.out.mv
    exact ⟨_, ⟨Nat.le_trans hm.size HB2.out.size, fun k hk hg hv => (HB2.out.block k (Nat.lt_of_lt_of_le hk hm.size)).trans (hm.frame k hk hg hv), hm.own⟩, .inr rfl⟩
end Go.Proofs.Ytdgemabmmomebaa.PAxis

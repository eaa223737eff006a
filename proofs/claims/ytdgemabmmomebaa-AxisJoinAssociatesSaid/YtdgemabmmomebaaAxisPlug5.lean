/- Join of axis: the loop over one writer and two readers. -/
import Derived.Test.YtdgemabmmomebaaAxisPlug4
namespace Go.Proofs.Ytdgemabmmomebaa.PAxis
open Go.RowKit Go.Proofs.YtdgemabmmomebaaW.PrintWords Go.Proofs.YtdgemabmmomebaaW.PrintLast Go.Proofs.YtdgemabmmomebaaW.PrintMore
set_option linter.unusedVariables false
set_option linter.unusedSimpArgs false

/-- One writer at gw, readers at gp and gq. -/
structure JSt (w0 : World) (gw gp gq : Nat) (a : List S97) (ua : Int) (b : List S97) (ub : Int) (s : WS) (w : World) : Prop where
  w_ : ∃ v, WrSt w0 w gw v s.out s.add s.cut v w
  p_ : RdSt w0 gp a ua w
  q_ : RdSt w0 gq b ub w
  wp : gw ≠ gp
  wq : gw ≠ gq
  pq : gp ≠ gq
  lw : w0.heap.size ≤ gw
  lp : w0.heap.size ≤ gp
  lq : w0.heap.size ≤ gq
section
variable {w0 w w' : World} {gw gp gq : Nat} {a b : List S97} {ua ub : Int} {s : WS}
theorem JSt.bel (h : JSt w0 gw gp gq a ua b ub s w) : Below w0.heap.size w0 w := by
  obtain ⟨v, hv⟩ := h.w_
  exact hv.bel
theorem JSt.mvp {a' : List S97} {ua' : Int} (h : JSt w0 gw gp gq a ua b ub s w) (hm : RdMv gp w w') (hr : RdSt w0 gp a' ua' w') : JSt w0 gw gp gq a' ua' b ub s w' := by
  obtain ⟨v, hv⟩ := h.w_
  exact ⟨⟨v, hm.wr h.lp hv h.wp⟩, hr, RdSt.far hm h.q_ (fun e => h.pq e.symm), h.wp, h.wq, h.pq, h.lw, h.lp, h.lq⟩
theorem JSt.mvq {b' : List S97} {ub' : Int} (h : JSt w0 gw gp gq a ua b ub s w) (hm : RdMv gq w w') (hr : RdSt w0 gq b' ub' w') : JSt w0 gw gp gq a ua b' ub' s w' := by
  obtain ⟨v, hv⟩ := h.w_
  exact ⟨⟨v, hm.wr h.lq hv h.wq⟩, RdSt.far hm h.p_ h.pq, hr, h.wp, h.wq, h.pq, h.lw, h.lp, h.lq⟩
theorem JSt.mvn (h : JSt w0 gw gp gq a ua b ub s w) (n : Nat) : JSt w0 gw gp gq a ua b ub s (w.drewN n) := by
  have hm : RdMv gp w (w.drewN n) := .drew n .refl
  obtain ⟨A, c, hb, hC, hc⟩ := h.p_.ex
  exact h.mvp hm ⟨A, c, blk_drewN hb n, hC, hc⟩
theorem JSt.kind_p (h : JSt w0 gw gp gq a ua b ub s w) : Calls Try.prog 74 #[.pointer (some ⟨gp, 0, none⟩)] w fun e w' => e = .returned (.int .i64 (kindL a)) ∧ w' = w := kind_calls w0 gp a ua w h.p_ h.bel
theorem JSt.kind_q (h : JSt w0 gw gp gq a ua b ub s w) : Calls Try.prog 74 #[.pointer (some ⟨gq, 0, none⟩)] w fun e w' => e = .returned (.int .i64 (kindL b)) ∧ w' = w := kind_calls w0 gq b ub w h.q_ h.bel
theorem JSt.left_p (h : JSt w0 gw gp gq a ua b ub s w) (hl : 0 < a.length) : Calls Try.prog 76 #[.pointer (some ⟨gp, 0, none⟩)] w fun e w' => e = .returned (.int .i64 (leftL a ua)) ∧ JSt w0 gw gp gq a ua b ub s w' :=
  (left_calls w0 gp a ua w h.p_ h.bel hl).mono (by rintro e w' ⟨rfl, n, rfl⟩; exact ⟨rfl, h.mvn n⟩)
theorem JSt.left_q (h : JSt w0 gw gp gq a ua b ub s w) (hl : 0 < b.length) : Calls Try.prog 76 #[.pointer (some ⟨gq, 0, none⟩)] w fun e w' => e = .returned (.int .i64 (leftL b ub)) ∧ JSt w0 gw gp gq a ua b ub s w' :=
  (left_calls w0 gq b ub w h.q_ h.bel hl).mono (by rintro e w' ⟨rfl, n, rfl⟩; exact ⟨rfl, h.mvn n⟩)
theorem JSt.take_p (h : JSt w0 gw gp gq a ua b ub s w) (n : Int) (hl : 0 < a.length) : Calls Try.prog 77 #[.pointer (some ⟨gp, 0, none⟩), .int .i64 n] w fun e w' => e = .returned (.tuple #[]) ∧ JSt w0 gw gp gq (takeL a ua n) (takeU a ua n) b ub s w' :=
  (take_calls w0 gp a ua n w h.lp h.p_ h.bel hl).mono (by rintro e w' ⟨rfl, hm, hr⟩; exact ⟨rfl, h.mvp hm hr⟩)
theorem JSt.take_q (h : JSt w0 gw gp gq a ua b ub s w) (n : Int) (hl : 0 < b.length) : Calls Try.prog 77 #[.pointer (some ⟨gq, 0, none⟩), .int .i64 n] w fun e w' => e = .returned (.tuple #[]) ∧ JSt w0 gw gp gq a ua (takeL b ub n) (takeU b ub n) s w' :=
  (take_calls w0 gq b ub n w h.lq h.q_ h.bel hl).mono (by rintro e w' ⟨rfl, hm, hr⟩; exact ⟨rfl, h.mvq hm hr⟩)
theorem JSt.put (h : JSt w0 gw gp gq a ua b ub s w) (kind n : Int) (hl : (s.out.length + 3) * 16 ≤ 140737488355328) : Calls Try.prog 75 #[.pointer (some ⟨gw, 0, none⟩), .int .i64 kind, .int .i64 n] w fun e w' => e = .returned (.tuple #[]) ∧ JSt w0 gw gp gq a ua b ub (putL s kind n) w' := by
  obtain ⟨v, hv⟩ := h.w_
  refine (put_calls w0 gw s kind n v w h.lw hv hl).mono ?_
  rintro e w' ⟨rfl, v', hv'⟩
  obtain ⟨A, c, hb, hC, hc⟩ := h.p_.ex
  obtain ⟨A2, c2, hb2, hC2, hc2⟩ := h.q_.ex
  exact ⟨rfl, ⟨v', ⟨hv'.blk, hv'.row, hv'.bel, Moves.refl _ _ _⟩⟩, hv'.mv.rd (Kd.R_ne hv.row hb (by decide)) h.p_ (fun e => h.wp e.symm), hv'.mv.rd (Kd.R_ne hv.row hb2 (by decide)) h.q_ (fun e => h.wq e.symm), h.wp, h.wq, h.pq, h.lw, h.lp, h.lq⟩
end
def mn (x y : Int) : Int := if y < x then y else x
/-- The loop of Join. -/
def joinL : Nat → List S97 → Int → List S97 → Int → WS → Option WS
  | 0, _, _, _, _, _ => none
  | k + 1, a, ua, b, ub, s =>
    if 4398046511104 < s.out.length then none
    else if 0 ≤ kindL a ∨ 0 ≤ kindL b then
      if kindL a = 2 then joinL k (takeL a ua (leftL a ua)) (takeU a ua (leftL a ua)) b ub (putL s 2 (leftL a ua))
      else if kindL b = 1 then joinL k a ua (takeL b ub (leftL b ub)) (takeU b ub (leftL b ub)) (putL s 1 (leftL b ub))
      else if kindL a < 0 ∨ b.length = 0 then none
      else joinL k (takeL a ua (mn (leftL a ua) (leftL b ub))) (takeU a ua (mn (leftL a ua) (leftL b ub))) (takeL b ub (mn (leftL a ua) (leftL b ub))) (takeU b ub (mn (leftL a ua) (leftL b ub)))
        (if kindL a = 0 then putL s (kindL b) (mn (leftL a ua) (leftL b ub)) else if kindL b = 0 then putL s 1 (mn (leftL a ua) (leftL b ub)) else s)
    else some s
theorem joinL_mono : ∀ (k : Nat) (a : List S97) (ua : Int) (b : List S97) (ub : Int) (s : WS), LeO (joinL k a ua b ub s) (joinL (k + 1) a ua b ub s)
  | 0, _, _, _, _, _ => fun r h => by cases h
  | k + 1, a, ua, b, ub, s => by
    rw [joinL, joinL]
    exact LeO.ite (LeO.refl _) (LeO.ite (LeO.ite (joinL_mono k _ _ _ _ _) (LeO.ite (joinL_mono k _ _ _ _ _) (LeO.ite (LeO.refl _) (joinL_mono k _ _ _ _ _)))) (LeO.refl _))
theorem kindL_pos {l : List S97} (h : 0 ≤ kindL l) : 0 < l.length := by
  unfold kindL at h
  split at h <;> omega
/-- The two lengths and the loop, once both arguments are checked. -/
def joinF (k : Nat) (a b : List S97) : Option (List S97 × Int) :=
  (axis_Check.f k a).bind fun e => if e ≠ 0 then some ([], e) else (axis_Check.f k b).bind fun e' => if e' ≠ 0 then some ([], e') else
    (axis_lengths.f k a).bind fun n => (axis_lengths.f k b).bind fun m => if m.1 ≠ n.2 then some ([], 14) else (joinL k a 0 b 0 ⟨[], 0, 0⟩).bind fun s => if 4398046511104 < s.out.length then none else doneF k s
end Go.Proofs.Ytdgemabmmomebaa.PAxis

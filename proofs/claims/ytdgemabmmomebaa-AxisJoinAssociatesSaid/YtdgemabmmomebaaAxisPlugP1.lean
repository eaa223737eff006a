/- Pair of axis: the loop over two writers and two readers. -/
import Derived.Test.YtdgemabmmomebaaAxisPlug6
namespace Go.Proofs.Ytdgemabmmomebaa.PAxis
open Go.RowKit Go.Proofs.YtdgemabmmomebaaW.PrintWords Go.Proofs.YtdgemabmmomebaaW.PrintLast Go.Proofs.YtdgemabmmomebaaW.PrintMore
set_option linter.unusedVariables false
set_option linter.unusedSimpArgs false

/-- The rows that two values begin lie in two blocks. -/
def Ap (u v : Value) : Prop := ∀ b, u.ownBlock = some b → v.ownBlock ≠ some b
theorem Ap.symm {u v : Value} (h : Ap u v) : Ap v u := fun b hb hu => h b hu hb
theorem Moves.ap {w w' : World} {g : Nat} {u u' v : Value} (hm : Moves w w' g u u') (hv : ∀ k, v.ownBlock = some k → k < w.heap.size) (h : Ap u v) : Ap u' v := by
  intro b hb hvb
  rcases hm.own with e | ⟨c, e, hc⟩
  · exact h b (e.symm.trans hb) hvb
  · rw [e] at hb
    injection hb with hb
    have := hv b hvb
    omega
/-- What is written to one writer leaves the other one. -/
theorem Moves.other {w0 w w' : World} {gx gy : Nat} {u u' v : Value} {o1 o2 : List S97} {a1 c1 a2 c2 : Int} (hm : Moves w w' gx u u') (hx : WrSt w0 w gx u o1 a1 c1 u w) (k : WrSt w0 w gy v o2 a2 c2 v w) (hne : gy ≠ gx) (ap : Ap u v) (hB : Below w0.heap.size w0 w') :
    WrSt w0 w' gy v o2 a2 c2 v w' ∧ Ap u' v := by
  refine ⟨⟨(hm.frame gy (blk_lt k.blk) hne (Kd.R_ne hx.row k.blk (by decide))).trans k.blk, Kd.R_mono (Kd.R_step (R97_own k.row) (fun b hb hlt => hm.frame b hlt ?_ ?_)) (fun _ _ => trivial), hB, Moves.refl _ _ _⟩, hm.ap (Kd.R_lt k.row) ap⟩
  · intro e
    subst e
    exact Kd.R_ne k.row hx.blk (by decide) hb.symm
  · intro e
    exact ap b e.symm hb

/-- Two writers at gx and gy, readers at gp and gq. -/
structure PSt (w0 : World) (gx gy gp gq : Nat) (a : List S97) (ua : Int) (b : List S97) (ub : Int) (s t : WS) (w : World) : Prop where
  xy : ∃ u v, WrSt w0 w gx u s.out s.add s.cut u w ∧ WrSt w0 w gy v t.out t.add t.cut v w ∧ Ap u v
  p_ : RdSt w0 gp a ua w
  q_ : RdSt w0 gq b ub w
  ne : gx ≠ gy
  xp : gx ≠ gp
  xq : gx ≠ gq
  yp : gy ≠ gp
  yq : gy ≠ gq
  pq : gp ≠ gq
  lx : w0.heap.size ≤ gx
  ly : w0.heap.size ≤ gy
  lp : w0.heap.size ≤ gp
  lq : w0.heap.size ≤ gq
section
variable {w0 w w' : World} {gx gy gp gq : Nat} {a b : List S97} {ua ub : Int} {s t : WS}
theorem PSt.bel (h : PSt w0 gx gy gp gq a ua b ub s t w) : Below w0.heap.size w0 w := by
  obtain ⟨u, v, hu, hv, ha⟩ := h.xy
  exact hu.bel
theorem PSt.mvp {a' : List S97} {ua' : Int} (h : PSt w0 gx gy gp gq a ua b ub s t w) (hm : RdMv gp w w') (hr : RdSt w0 gp a' ua' w') : PSt w0 gx gy gp gq a' ua' b ub s t w' := by
  obtain ⟨u, v, hu, hv, ha⟩ := h.xy
  exact ⟨⟨u, v, hm.wr h.lp hu h.xp, hm.wr h.lp hv h.yp, ha⟩, hr, RdSt.far hm h.q_ (fun e => h.pq e.symm), h.ne, h.xp, h.xq, h.yp, h.yq, h.pq, h.lx, h.ly, h.lp, h.lq⟩
theorem PSt.mvq {b' : List S97} {ub' : Int} (h : PSt w0 gx gy gp gq a ua b ub s t w) (hm : RdMv gq w w') (hr : RdSt w0 gq b' ub' w') : PSt w0 gx gy gp gq a ua b' ub' s t w' := by
  obtain ⟨u, v, hu, hv, ha⟩ := h.xy
  exact ⟨⟨u, v, hm.wr h.lq hu h.xq, hm.wr h.lq hv h.yq, ha⟩, RdSt.far hm h.p_ h.pq, hr, h.ne, h.xp, h.xq, h.yp, h.yq, h.pq, h.lx, h.ly, h.lp, h.lq⟩
theorem PSt.mvn (h : PSt w0 gx gy gp gq a ua b ub s t w) (n : Nat) : PSt w0 gx gy gp gq a ua b ub s t (w.drewN n) := by
  have hm : RdMv gp w (w.drewN n) := .drew n .refl
  obtain ⟨A, c, hb, hC, hc⟩ := h.p_.ex
  exact h.mvp hm ⟨A, c, blk_drewN hb n, hC, hc⟩
theorem PSt.kind_p (h : PSt w0 gx gy gp gq a ua b ub s t w) : Calls Try.prog 74 #[.pointer (some ⟨gp, 0, none⟩)] w fun e w' => e = .returned (.int .i64 (kindL a)) ∧ w' = w := kind_calls w0 gp a ua w h.p_ h.bel
theorem PSt.kind_q (h : PSt w0 gx gy gp gq a ua b ub s t w) : Calls Try.prog 74 #[.pointer (some ⟨gq, 0, none⟩)] w fun e w' => e = .returned (.int .i64 (kindL b)) ∧ w' = w := kind_calls w0 gq b ub w h.q_ h.bel
theorem PSt.left_p (h : PSt w0 gx gy gp gq a ua b ub s t w) (hl : 0 < a.length) : Calls Try.prog 76 #[.pointer (some ⟨gp, 0, none⟩)] w fun e w' => e = .returned (.int .i64 (leftL a ua)) ∧ PSt w0 gx gy gp gq a ua b ub s t w' :=
  (left_calls w0 gp a ua w h.p_ h.bel hl).mono (by rintro e w' ⟨rfl, n, rfl⟩; exact ⟨rfl, h.mvn n⟩)
theorem PSt.left_q (h : PSt w0 gx gy gp gq a ua b ub s t w) (hl : 0 < b.length) : Calls Try.prog 76 #[.pointer (some ⟨gq, 0, none⟩)] w fun e w' => e = .returned (.int .i64 (leftL b ub)) ∧ PSt w0 gx gy gp gq a ua b ub s t w' :=
  (left_calls w0 gq b ub w h.q_ h.bel hl).mono (by rintro e w' ⟨rfl, n, rfl⟩; exact ⟨rfl, h.mvn n⟩)
theorem PSt.take_p (h : PSt w0 gx gy gp gq a ua b ub s t w) (n : Int) (hl : 0 < a.length) : Calls Try.prog 77 #[.pointer (some ⟨gp, 0, none⟩), .int .i64 n] w fun e w' => e = .returned (.tuple #[]) ∧ PSt w0 gx gy gp gq (takeL a ua n) (takeU a ua n) b ub s t w' :=
  (take_calls w0 gp a ua n w h.lp h.p_ h.bel hl).mono (by rintro e w' ⟨rfl, hm, hr⟩; exact ⟨rfl, h.mvp hm hr⟩)
theorem PSt.take_q (h : PSt w0 gx gy gp gq a ua b ub s t w) (n : Int) (hl : 0 < b.length) : Calls Try.prog 77 #[.pointer (some ⟨gq, 0, none⟩), .int .i64 n] w fun e w' => e = .returned (.tuple #[]) ∧ PSt w0 gx gy gp gq a ua (takeL b ub n) (takeU b ub n) s t w' :=
  (take_calls w0 gq b ub n w h.lq h.q_ h.bel hl).mono (by rintro e w' ⟨rfl, hm, hr⟩; exact ⟨rfl, h.mvq hm hr⟩)
theorem PSt.put_x (h : PSt w0 gx gy gp gq a ua b ub s t w) (kind n : Int) (hl : (s.out.length + 3) * 16 ≤ 140737488355328) : Calls Try.prog 75 #[.pointer (some ⟨gx, 0, none⟩), .int .i64 kind, .int .i64 n] w fun e w' => e = .returned (.tuple #[]) ∧ PSt w0 gx gy gp gq a ua b ub (putL s kind n) t w' := by
  obtain ⟨u, v, hu, hv, ha⟩ := h.xy
  refine (put_calls w0 gx s kind n u w h.lx hu hl).mono ?_
  rintro e w' ⟨rfl, u', hu'⟩
  obtain ⟨A, c, hb, hC, hc⟩ := h.p_.ex
  obtain ⟨A2, c2, hb2, hC2, hc2⟩ := h.q_.ex
  obtain ⟨hv', ha'⟩ := hu'.mv.other hu hv (fun e => h.ne e.symm) ha hu'.bel
  exact ⟨rfl, ⟨u', v, ⟨hu'.blk, hu'.row, hu'.bel, Moves.refl _ _ _⟩, hv', ha'⟩, hu'.mv.rd (Kd.R_ne hu.row hb (by decide)) h.p_ (fun e => h.xp e.symm), hu'.mv.rd (Kd.R_ne hu.row hb2 (by decide)) h.q_ (fun e => h.xq e.symm), h.ne, h.xp, h.xq, h.yp, h.yq, h.pq, h.lx, h.ly, h.lp, h.lq⟩
theorem PSt.put_y (h : PSt w0 gx gy gp gq a ua b ub s t w) (kind n : Int) (hl : (t.out.length + 3) * 16 ≤ 140737488355328) : Calls Try.prog 75 #[.pointer (some ⟨gy, 0, none⟩), .int .i64 kind, .int .i64 n] w fun e w' => e = .returned (.tuple #[]) ∧ PSt w0 gx gy gp gq a ua b ub s (putL t kind n) w' := by
  obtain ⟨u, v, hu, hv, ha⟩ := h.xy
  refine (put_calls w0 gy t kind n v w h.ly hv hl).mono ?_
  rintro e w' ⟨rfl, v', hv'⟩
  obtain ⟨A, c, hb, hC, hc⟩ := h.p_.ex
  obtain ⟨A2, c2, hb2, hC2, hc2⟩ := h.q_.ex
  obtain ⟨hu', ha'⟩ := hv'.mv.other hv hu h.ne ha.symm hv'.bel
  exact ⟨rfl, ⟨u, v', hu', ⟨hv'.blk, hv'.row, hv'.bel, Moves.refl _ _ _⟩, ha'.symm⟩, hv'.mv.rd (Kd.R_ne hv.row hb (by decide)) h.p_ (fun e => h.yp e.symm), hv'.mv.rd (Kd.R_ne hv.row hb2 (by decide)) h.q_ (fun e => h.yq e.symm), h.ne, h.xp, h.xq, h.yp, h.yq, h.pq, h.lx, h.ly, h.lp, h.lq⟩
/-- The first writer is done: its row, and the other writer, apart from it. -/
def XDone (w0 : World) (gy : Nat) (r : List S97) (t : WS) (u : Value) (w : World) : Prop :=
  Kd.R k97 97 w w0.heap.size (fun _ => True) u r ∧ ∃ v, WrSt w0 w gy v t.out t.add t.cut v w ∧ Ap u v
theorem PSt.done_x (h : PSt w0 gx gy gp gq a ua b ub s t w) (k : Nat) (r : List S97) (e0 : Int) (hl : (s.out.length + 3) * 16 ≤ 140737488355328) (hf : doneF k s = some (r, e0)) :
    Calls Try.prog 78 #[.pointer (some ⟨gx, 0, none⟩)] w fun e w' => ∃ u, e = .returned (.tuple #[u, .int .i64 e0]) ∧ XDone w0 gy r t u w' := by
  obtain ⟨u, v, hu, hv, ha⟩ := h.xy
  refine (done_calls k w0 gx s r e0 u w h.lx hu hl hf).mono ?_
  rintro e w' ⟨u', rfl, hR, hB, vM, hm, ho⟩
  obtain ⟨hv', ha'⟩ := hm.other hu hv (fun e => h.ne e.symm) ha hB
  refine ⟨u', rfl, hR, v, hv', ?_⟩
  rcases ho with ho | rfl
  · intro b hb
    rw [ho] at hb
    cases hb
  · exact ha'
theorem XDone.done_y {r : List S97} {u : Value} (h : XDone w0 gy r t u w) (ly : w0.heap.size ≤ gy) (k : Nat) (r2 : List S97) (e0 : Int) (hl : (t.out.length + 3) * 16 ≤ 140737488355328) (hf : doneF k t = some (r2, e0)) :
    Calls Try.prog 78 #[.pointer (some ⟨gy, 0, none⟩)] w fun e w' => ∃ v, e = .returned (.tuple #[v, .int .i64 e0]) ∧ Kd.R k97 97 w' w0.heap.size (fun k_ => some k_ ≠ v.ownBlock) u r ∧ Kd.R k97 97 w' w0.heap.size (fun k_ => some k_ ≠ u.ownBlock) v r2 ∧ Below w0.heap.size w0 w' := by
  obtain ⟨hR, v, hv, ha⟩ := h
  refine (done_calls k w0 gy t r2 e0 v w ly hv hl hf).mono ?_
  rintro e w' ⟨v', rfl, hR2, hB, vM, hm, ho⟩
  have hap : Ap u v' := by
    rcases ho with ho | rfl
    · intro b hb hvb
      rw [ho] at hvb
      cases hvb
    · exact (hm.ap (Kd.R_lt hR) ha.symm).symm
  have hR' : Kd.R k97 97 w' w0.heap.size (fun k => u.ownBlock = some k) u r := by
    refine Kd.R_step (R97_own hR) (fun b hb hlt => hm.frame b hlt ?_ ?_)
    · intro e
      subst e
      exact Kd.R_ne hR hv.blk (by decide) hb.symm
    · intro e
      exact ha b hb e.symm
  exact ⟨v', rfl, Kd.R_mono hR' (fun k hk e => hap k hk e.symm), Kd.R_mono (R97_own hR2) (fun k hk e => hap k e.symm hk), hB⟩
end
/-- The loop of Pair. -/
def pairL : Nat → List S97 → Int → List S97 → Int → WS → WS → Option (WS × WS)
  | 0, _, _, _, _, _, _ => none
  | k + 1, a, ua, b, ub, s, t =>
    if 4398046511104 < s.out.length ∨ 4398046511104 < t.out.length then none
    else if 0 ≤ kindL a ∨ 0 ≤ kindL b then
      if kindL a = 1 then pairL k (takeL a ua (leftL a ua)) (takeU a ua (leftL a ua)) b ub (putL s 1 (leftL a ua)) (putL t 0 (leftL a ua))
      else if kindL b = 1 then pairL k a ua (takeL b ub (leftL b ub)) (takeU b ub (leftL b ub)) (putL s 0 (leftL b ub)) (putL t 1 (leftL b ub))
      else if kindL a < 0 ∨ b.length = 0 then none
      else pairL k (takeL a ua (mn (leftL a ua) (leftL b ub))) (takeU a ua (mn (leftL a ua) (leftL b ub))) (takeL b ub (mn (leftL a ua) (leftL b ub))) (takeU b ub (mn (leftL a ua) (leftL b ub)))
        (if kindL b = 0 then putL s (kindL a) (mn (leftL a ua) (leftL b ub)) else s) (if kindL a = 0 then putL t (kindL b) (mn (leftL a ua) (leftL b ub)) else t)
    else some (s, t)
theorem pairL_mono : ∀ (k : Nat) (a : List S97) (ua : Int) (b : List S97) (ub : Int) (s t : WS), LeO (pairL k a ua b ub s t) (pairL (k + 1) a ua b ub s t)
  | 0, _, _, _, _, _, _ => fun r h => by cases h
  | k + 1, a, ua, b, ub, s, t => by
    rw [pairL, pairL]
    exact LeO.ite (LeO.refl _) (LeO.ite (LeO.ite (pairL_mono k _ _ _ _ _ _) (LeO.ite (pairL_mono k _ _ _ _ _ _) (LeO.ite (LeO.refl _) (pairL_mono k _ _ _ _ _ _)))) (LeO.refl _))
/-- Both writers are done. -/
def dones (k : Nat) (s t : WS) : Option (List S97 × List S97 × Int) :=
  (doneF k s).bind fun x => (doneF k t).bind fun y => if x.2 ≠ 0 then some ([], [], 3) else if y.2 ≠ 0 then some ([], [], 3) else some (x.1, y.1, 0)
/-- The two lengths and the loop, once both arguments are checked. -/
def pairF (k : Nat) (a b : List S97) : Option (List S97 × List S97 × Int) :=
  (axis_Check.f k a).bind fun e => if e ≠ 0 then some ([], [], e) else (axis_Check.f k b).bind fun e' => if e' ≠ 0 then some ([], [], e') else
    (axis_lengths.f k a).bind fun n => (axis_lengths.f k b).bind fun m => if n.1 ≠ m.1 then some ([], [], 14) else (pairL k a 0 b 0 ⟨[], 0, 0⟩ ⟨[], 0, 0⟩).bind fun z =>
      if 4398046511104 < z.1.out.length ∨ 4398046511104 < z.2.out.length then none else dones k z.1 z.2
end Go.Proofs.Ytdgemabmmomebaa.PAxis

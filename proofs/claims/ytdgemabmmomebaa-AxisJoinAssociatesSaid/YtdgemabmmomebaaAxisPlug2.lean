/- The writer of axis: what put does to it. -/
import Derived.Test.YtdgemabmmomebaaAxisPlug1
namespace Go.Proofs.Ytdgemabmmomebaa.PAxis
open Go.RowKit Go.Proofs.YtdgemabmmomebaaW.PrintWords Go.Proofs.YtdgemabmmomebaaW.PrintLast Go.Proofs.YtdgemabmmomebaaW.PrintMore
set_option linter.unusedVariables false
set_option linter.unusedSimpArgs false

def keepL (out : List S97) (n : Int) : List S97 :=
  if 0 < out.length ∧ (rd_T97 out ((out.length : Int) - 1)).f0 = 0 then out.set (out.length - 1) ⟨0, wrap64 ((rd_T97 out ((out.length : Int) - 1)).f1 + n)⟩ else out ++ [⟨0, n⟩]
structure WS where
  out : List S97
  add : Int
  cut : Int
def putL (s : WS) (kind n : Int) : WS :=
  if n = 0 then s else if kind = 1 then ⟨s.out, wrap64 (s.add + n), s.cut⟩ else if kind = 2 then ⟨s.out, s.add, wrap64 (s.cut + n)⟩ else ⟨keepL (flushL s.out s.add s.cut) n, 0, 0⟩
theorem flush_len (out : List S97) (a c : Int) : out.length ≤ (flushL out a c).length ∧ (flushL out a c).length ≤ out.length + 2 := by
  unfold flushL app1
  repeat (first | split | simp)

theorem wr_moves {w0 wI w w1 : World} {g : Nat} {vI v v1 : Value} {out : List S97} {a c : Int} (h : Moves wI w g vI v) (k : WrSt w0 w g v out a c v1 w1) : WrSt w0 wI g vI out a c v1 w1 := ⟨k.blk, k.row, k.bel, h.trans k.mv⟩

theorem wr_seg {w0 wI w : World} {g go n cap j : Nat} {vI : Value} {o o' : List S97} {a c : Int} {x : Value} (h : WrSt w0 wI g vI o a c (.slice (some ⟨go, 0, none⟩) n cap) w) (h0 : w0.heap.size ≤ g) (hne : go ≠ g) (hgo : w0.heap.size ≤ go)
    (hR : Kd.R k97 97 (w.setCell ⟨go, j, none⟩ x) w0.heap.size (fun _ => True) (.slice (some ⟨go, 0, none⟩) n cap) o') : WrSt w0 wI g vI o' a c (.slice (some ⟨go, 0, none⟩) n cap) (w.setCell ⟨go, j, none⟩ x) := by
  refine ⟨blk_far h.blk (fun e => hne e.symm) _, hR, below_set h.bel hgo, ⟨by have := h.mv.size; simp [World.setCell]; omega, fun k hk hgk hv => ?_, h.mv.own⟩⟩
  have hk' : k ≠ go := by
    rcases h.mv.own with e | ⟨b, e, hb⟩
    · intro e2
      apply hv
      rw [← e, e2]
      rfl
    · have : go = b := by simpa [Value.ownBlock] using e
      omega
  rw [Below.heap_setCell _ _ _ _ hk', h.mv.frame k hk hgk hv]

set_option maxRecDepth 100000 in
set_option maxHeartbeats 8000000 in
theorem put_small (w0 : World) (g : Nat) (out : List S97) (add cut kind n : Int) (vI : Value) (w : World) (h0 : w0.heap.size ≤ g) (h : WrSt w0 w g vI out add cut vI w) (hk : n = 0 ∨ kind = 1 ∨ kind = 2) :
    Calls Try.prog 75 #[.pointer (some ⟨g, 0, none⟩), .int .i64 kind, .int .i64 n] w fun e w' => e = .returned (.tuple #[]) ∧ ∃ v, WrSt w0 w g vI (putL ⟨out, add, cut⟩ kind n).out (putL ⟨out, add, cut⟩ kind n).add (putL ⟨out, add, cut⟩ kind n).cut v w' := by
  have hu97 := Try.underlying97
  have hu107 := Try.underlying107
  have HS := Aside0.mk h
  have H0 := Aside0.mk h0
  have hc1 : w.cell? ⟨g, 1, none⟩ = some (.int .i64 add) := (blk_cell HS.out.blk 1).trans rfl
  have hc2 : w.cell? ⟨g, 2, none⟩ = some (.int .i64 cut) := (blk_cell HS.out.blk 2).trans rfl
  have hf1 := blk_frozen HS.out.blk 1
  have hf2 := blk_frozen HS.out.blk 2
  clear h h0
  by_cases c1 : n = 0
  · have e : putL ⟨out, add, cut⟩ kind n = ⟨out, add, cut⟩ := if_pos c1
    have HE := Aside0.mk e
    have c1b : (n == 0) = true := beq_iff_eq.mpr c1
    clear e c1 hk
    go_enter Try.func75, Try.ntmps75
    go_wp2
    go_end0
    exact ⟨rfl, vI, by rw [HE.out]; exact HS.out⟩
  · have c1b : (n == 0) = false := beq_eq_false_iff_ne.mpr c1
    by_cases c2 : kind = 1
    · have e : putL ⟨out, add, cut⟩ kind n = ⟨out, wrap64 (add + n), cut⟩ := by unfold putL; rw [if_neg c1, if_pos c2]
      have HE := Aside0.mk e
      have c2b : (kind == 1) = true := beq_iff_eq.mpr c2
      clear e c1 c2 hk
      go_enter Try.func75, Try.ntmps75
      go_wp2
      go_end0
      exact ⟨rfl, vI, by rw [HE.out]; exact HS.out.put1 H0.out _⟩
    · have c2b : (kind == 1) = false := beq_eq_false_iff_ne.mpr c2
      have c3 : kind = 2 := by omega
      have e : putL ⟨out, add, cut⟩ kind n = ⟨out, add, wrap64 (cut + n)⟩ := by unfold putL; rw [if_neg c1, if_neg c2, if_pos c3]
      have HE := Aside0.mk e
      have c3b : (kind == 2) = true := beq_iff_eq.mpr c3
      clear e c1 c2 c3 hk
      go_enter Try.func75, Try.ntmps75
      go_wp2
      go_end0
      exact ⟨rfl, vI, by rw [HE.out]; exact HS.out.put2 H0.out _⟩

set_option maxRecDepth 100000 in
set_option maxHeartbeats 8000000 in
theorem put_keep (w0 : World) (g : Nat) (out : List S97) (add cut kind n : Int) (vI : Value) (w : World) (h0 : w0.heap.size ≤ g) (h : WrSt w0 w g vI out add cut vI w) (hl : (out.length + 3) * 16 ≤ 140737488355328) (hn : n ≠ 0) (hk1 : kind ≠ 1) (hk2 : kind ≠ 2) :
    Calls Try.prog 75 #[.pointer (some ⟨g, 0, none⟩), .int .i64 kind, .int .i64 n] w fun e w' => e = .returned (.tuple #[]) ∧ ∃ v, WrSt w0 w g vI (keepL (flushL out add cut) n) 0 0 v w' := by
  have hu97 := Try.underlying97
  have hu107 := Try.underlying107
  have HF := Aside0.mk (flush_calls w0 g out add cut vI w h0 h (by omega))
  have H0 := Aside0.mk h0
  have HL := Aside0.mk (show (flushL out add cut).length ≤ 8796093022207 by have := (flush_len out add cut).2; omega)
  have c1b : (n == 0) = false := beq_eq_false_iff_ne.mpr hn
  have c2b : (kind == 1) = false := beq_eq_false_iff_ne.mpr hk1
  have c3b : (kind == 2) = false := beq_eq_false_iff_ne.mpr hk2
  clear h h0 hl hn hk1 hk2
  obtain ⟨o, ho⟩ : ∃ o, o = flushL out add cut := ⟨_, rfl⟩
  rw [← ho] at HF HL ⊢
  clear ho
  go_enter Try.func75, Try.ntmps75
  go_wp2_with (go_at_call 108; refine HF.out.mono ?_)
  rintro e w1 ⟨rfl, v, hS⟩
  obtain ⟨A1, n1, rfl⟩ := Kd.R_slice hS.row
  have HS := Aside0.mk hS
  have hc0 : w1.cell? ⟨g, 0, none⟩ = some (.slice A1 o.length n1) := (blk_cell HS.out.blk 0).trans rfl
  have hf0 := blk_frozen HS.out.blk 0
  have hg : g < w1.heap.size := blk_lt hS.blk
  have hlen := HL.out
  clear hS HF
  by_cases hz : 0 < o.length
  · have p0 : 0 ≤ (o.length : Int) - 1 := by omega
    have q0 : (o.length : Int) - 1 < (o.length : Int) := by omega
    obtain ⟨go, co, eo, gb, gl, cells, hblk⟩ := Kd.R_form HS.out.row hz
    injection eo with ea en ec
    subst ea
    subst ec
    clear en
    obtain ⟨ce, hcl, hM, hcc, hfr⟩ := Kd.R_elem HS.out.row z97 ((o.length : Int) - 1) p0 q0
    obtain rfl := k97_openM hM
    have hne : go ≠ g := fun e => Kd.R_ne HS.out.row HS.out.blk (by decide) (by rw [e]; rfl)
    have hx0 : w1.cell? ⟨go, (o.length - 1) * 2, none⟩ = some (.int .i64 (rd_T97 o ((o.length : Int) - 1)).f0) := by
      have := hcc 0 _ rfl
      rwa [show (((o.length : Int) - 1).toNat * k97.sz + 0) = (o.length - 1) * 2 by show (((o.length : Int) - 1).toNat * 2 + 0) = _; omega] at this
    have hx1 : w1.cell? ⟨go, (o.length - 1) * 2 + 1, none⟩ = some (.int .i64 (rd_T97 o ((o.length : Int) - 1)).f1) := by
      have := hcc 1 _ rfl
      rwa [show (((o.length : Int) - 1).toNat * k97.sz + 1) = (o.length - 1) * 2 + 1 by show (((o.length : Int) - 1).toNat * 2 + 1) = _; omega] at this
    have hfx1 : w1.frozen? ⟨go, (o.length - 1) * 2 + 1, none⟩ = false := by
      have := hfr 1
      rwa [show (((o.length : Int) - 1).toNat * k97.sz + 1) = (o.length - 1) * 2 + 1 by show (((o.length : Int) - 1).toNat * 2 + 1) = _; omega] at this
    by_cases hkp : (rd_T97 o ((o.length : Int) - 1)).f0 = 0
    · have c4 : ((rd_T97 o ((o.length : Int) - 1)).f0 == 0) = true := beq_iff_eq.mpr hkp
      have e : keepL o n = o.set (o.length - 1) ⟨0, wrap64 ((rd_T97 o ((o.length : Int) - 1)).f1 + n)⟩ := if_pos ⟨hz, hkp⟩
      have HE := Aside0.mk e
      have HSEG := Aside0.mk (Kd.R_seg HS.out.row ((o.length : Int) - 1) p0 q0 (seg := [.int .i64 (wrap64 ((rd_T97 o ((o.length : Int) - 1)).f1 + n))]) (j := 1) hcl hcc (by show 2 ≤ 2; omega) (x' := (⟨0, wrap64 ((rd_T97 o ((o.length : Int) - 1)).f1 + n)⟩ : S97)) (okp := fun _ => False) (by rw [show (o.getD ((o.length : Int) - 1).toNat z97).f0 = 0 from hkp]; exact k97_mkM _ _ _ _) (fun _ h => h.elim))
      have HN := Aside0.mk hne
      have HGB := Aside0.mk gb
      clear hcl hM hcc hfr gb gl hblk hkp e hne
      go_wp2
      refine bodyPost_ret (results_none (by first | rfl | kernel_rfl) _ _ _) rfl ?_
      refine ⟨rfl, .slice (some ⟨go, 0, none⟩) o.length n1, ?_⟩
      rw [HE.out]
      have h2 := HSEG.out.1
      simp only [World.setCells, show k97.sz = 2 from rfl, show ((o.length : Int) - 1).toNat = o.length - 1 by omega] at h2
      exact wr_seg HS.out H0.out HN.out HGB.out h2
    · have c4 : ((rd_T97 o ((o.length : Int) - 1)).f0 == 0) = false := beq_eq_false_iff_ne.mpr hkp
      have e : keepL o n = o ++ [⟨0, n⟩] := if_neg (fun h => hkp h.2)
      have HE := Aside0.mk e
      clear hcl hM hcc hfr gb gl hblk hkp e hne
      go_wp2_with (at_builtin; (refine Kd.R_append k97 (w0 := w0) w0.heap.size rfl (.tmp 44) (.tmp 47) 44 97 (.agg #[.int .i64 0, .int .i64 0]) 16 rfl Try.underlying44 info97 rfl (by decide) (by decide) _ o ⟨0, n⟩ _ (fun _ => True) (fun _ => False) rfl (by simp [Act.eval]) (k97_mkM _ _ _ _) (fun _ h => h.elim) (fun _ _ => trivial) HS.out.row HS.out.bel HS.out.bel.size (by have := HL.out; omega) ?_))
      intro v1 w2 hR1 hB1 hg1 hat
      obtain ⟨A2, n2, rfl⟩ := Kd.R_slice hR1
      obtain ⟨hb1, hW⟩ := HS.out.app H0.out hR1 hB1 hg1 hat
      have HW := Aside0.mk hW
      have hd0 := (blk_cell hb1 0).trans rfl
      have hdf := blk_frozen hb1 0
      clear hR1 hB1 hg1 hat hb1 hW
      go_wp2
      go_end0
      exact ⟨rfl, _, by rw [HE.out]; simpa using HW.out⟩
  · have hnil : o = [] := List.eq_nil_of_length_eq_zero (by omega)
    subst hnil
    have e : keepL [] n = [⟨0, n⟩] := by unfold keepL; rw [if_neg (fun h => absurd h.1 (by decide))]; rfl
    have HE := Aside0.mk e
    clear e hz
    go_wp2_with (at_builtin; refine Kd.R_append k97 (w0 := w0) w0.heap.size rfl (.tmp 44) (.tmp 47) 44 97 (.agg #[.int .i64 0, .int .i64 0]) 16 rfl Try.underlying44 info97 rfl (by decide) (by decide) _ [] ⟨0, n⟩ _ (fun _ => True) (fun _ => False) rfl (by simp [Act.eval]) (k97_mkM _ _ _ _) (fun _ h => h.elim) (fun _ _ => trivial) HS.out.row HS.out.bel HS.out.bel.size (by simp) ?_)
    intro v1 w2 hR1 hB1 hg1 hat
    obtain ⟨A2, n2, rfl⟩ := Kd.R_slice hR1
    obtain ⟨hb1, hW⟩ := HS.out.app H0.out hR1 hB1 hg1 hat
    have HW := Aside0.mk hW
    have hd0 := (blk_cell hb1 0).trans rfl
    have hdf := blk_frozen hb1 0
    clear hR1 hB1 hg1 hat hb1 hW
    go_wp2
    go_end0
    exact ⟨rfl, _, by rw [HE.out]; simpa using HW.out⟩
end Go.Proofs.Ytdgemabmmomebaa.PAxis

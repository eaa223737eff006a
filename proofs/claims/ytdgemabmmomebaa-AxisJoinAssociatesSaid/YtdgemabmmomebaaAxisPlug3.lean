/- The reader of axis. -/
import Derived.Test.YtdgemabmmomebaaAxisPlug2
import Derived.StillTailTactics
namespace Go.Proofs.Ytdgemabmmomebaa.PAxis
open Go.RowKit Go.Proofs.YtdgemabmmomebaaW.PrintWords Go.Proofs.YtdgemabmmomebaaW.PrintLast Go.Proofs.YtdgemabmmomebaaW.PrintMore
set_option linter.unusedVariables false
set_option linter.unusedSimpArgs false

/-- The reader at block g: the steps l are left, and u rows of the first one are used. -/
structure RdSt (w0 : World) (g : Nat) (l : List S97) (u : Int) (w : World) : Prop where
  ex : ∃ (A : Option Addr) (c : Nat), w.heap[g]? = some (.cells #[.slice A l.length c, .int .i64 u] 110 (0, 0)) ∧ Kd.C k97 w0 A l.length l ∧ l.length ≤ c
def kindL (l : List S97) : Int := if l.length = 0 then -1 else (rd_T97 l 0).f0
def leftL (l : List S97) (u : Int) : Int := wrap64 ((rd_T97 l 0).f1 - u)
def takeU (l : List S97) (u n : Int) : Int := if wrap64 (u + n) = (rd_T97 l 0).f1 then 0 else wrap64 (u + n)
def takeL (l : List S97) (u n : Int) : List S97 := if wrap64 (u + n) = (rd_T97 l 0).f1 then l.drop 1 else l

/-- Only the reader at g has moved. -/
inductive RdMv (g : Nat) (w : World) : World → Prop
  | refl : RdMv g w w
  | put {w' : World} {cs : Array Value} {i : Nat} {v : Value} : RdMv g w w' → w'.heap[g]? = some (.cells cs 110 (0, 0)) → RdMv g w (w'.setCell ⟨g, i, none⟩ v)
  | drew {w' : World} (n : Nat) : RdMv g w w' → RdMv g w (w'.drewN n)

theorem RdMv.wr {w0 w w' : World} {g g' : Nat} {v : Value} {out : List S97} {a c : Int} (h : RdMv g' w w') (hw0 : w0.heap.size ≤ g') (k : WrSt w0 w g v out a c v w) (hne : g ≠ g') :
    WrSt w0 w' g v out a c v w' := by
  have H : w'.heap[g]? = some (.cells #[v, .int .i64 a, .int .i64 c] 107 (0, 0)) ∧ Kd.R k97 97 w' w0.heap.size (fun _ => True) v out ∧ Below w0.heap.size w0 w' := by
    induction h with
    | refl => exact ⟨k.blk, k.row, k.bel⟩
    | @put w1 cs i u h hb ih => exact ⟨blk_far (p := ⟨g', i, none⟩) ih.1 hne _, Kd.R_set ih.2.1 hb (by decide) _ _, below_set ih.2.2 hw0⟩
    | drew n h ih => exact ⟨blk_drewN ih.1 n, Kd.R_drewN ih.2.1 n, pw_below_drewN ih.2.2 n⟩
  exact ⟨H.1, H.2.1, H.2.2, Moves.refl _ _ _⟩
theorem RdMv.far {w w' : World} {g g' : Nat} {b : Obj} (h : RdMv g' w w') (hb : w.heap[g]? = some b) (hne : g ≠ g') : w'.heap[g]? = some b := by
  induction h with
  | refl => exact hb
  | @put w1 cs i u h _ ih => exact (Below.heap_setCell _ _ _ _ hne).trans ih
  | drew n h ih => exact blk_drewN ih n
theorem RdSt.far {w0 w w' : World} {g g' : Nat} {l : List S97} {u : Int} (h : RdMv g' w w') (k : RdSt w0 g l u w) (hne : g ≠ g') : RdSt w0 g l u w' := by
  obtain ⟨A, c, hb, hC, hc⟩ := k.ex
  exact ⟨A, c, h.far hb hne, hC, hc⟩
theorem Moves.rd {w0 w w' : World} {g g' : Nat} {v v' : Value} {l : List S97} {u : Int} (h : Moves w w' g v v') (hv : some g' ≠ v.ownBlock) (k : RdSt w0 g' l u w) (hne : g' ≠ g) : RdSt w0 g' l u w' := by
  obtain ⟨A, c, hb, hC, hc⟩ := k.ex
  exact ⟨A, c, (h.frame g' (blk_lt hb) hne hv).trans hb, hC, hc⟩

set_option maxRecDepth 100000 in
set_option maxHeartbeats 4000000 in
theorem kind_calls (w0 : World) (g : Nat) (l : List S97) (u : Int) (w : World) (h : RdSt w0 g l u w) (hB : Below w0.heap.size w0 w) :
    Calls Try.prog 74 #[.pointer (some ⟨g, 0, none⟩)] w fun e w' => e = .returned (.int .i64 (kindL l)) ∧ w' = w := by
  have hu97 := Try.underlying97
  have hu110 := Try.underlying110
  obtain ⟨A, c, hb, hC, hc⟩ := h.ex
  have hc0 : w.cell? ⟨g, 0, none⟩ = some (.slice A l.length c) := (blk_cell hb 0).trans rfl
  have HB := Aside0.mk hB
  have HC := Aside0.mk hC
  clear h hb hC hB hc
  by_cases c1 : l.length = 0
  · have e : kindL l = -1 := if_pos c1
    have c1b : (((l.length : Int)) == 0) = true := beq_iff_eq.mpr (by omega)
    have c1c : (l.length == 0) = true := beq_iff_eq.mpr c1
    rw [e]
    clear e c1
    go_enter Try.func74, Try.ntmps74
    go_wp2
    first | go_ret | go_ret2
    exact ⟨rfl, rfl⟩
  · have e : kindL l = (rd_T97 l 0).f0 := if_neg c1
    have c1b : (((l.length : Int)) == 0) = false := beq_eq_false_iff_ne.mpr (by omega)
    have c1c : (l.length == 0) = false := beq_eq_false_iff_ne.mpr c1
    rw [e]
    clear e
    have p0 : 0 ≤ (0 : Int) := Int.le_refl _
    have q0 : (0 : Int) < (l.length : Int) := by omega
    have q1 : 0 < l.length := by omega
    obtain ⟨ad0, e0, hx0, hx1⟩ := at_T97 HC.out (0 : Int) p0 q0
    cases e0
    replace hx0 := (HB.out.cell (World.block_lt_of_cell? w0 _ hx0)).trans hx0
    replace hx1 := (HB.out.cell (World.block_lt_of_cell? w0 _ hx1)).trans hx1
    simp only [show (0 : Int).toNat = 0 from rfl, Nat.zero_mul, Nat.reduceMul, Nat.reduceEqDiff, Go.Addr.add, ↓reduceIte] at hx0 hx1
    clear c1
    go_enter Try.func74, Try.ntmps74
    go_wp2
    first | go_ret | go_ret2
    exact ⟨rfl, rfl⟩


set_option maxRecDepth 100000 in
set_option maxHeartbeats 4000000 in
theorem left_calls (w0 : World) (g : Nat) (l : List S97) (u : Int) (w : World) (h : RdSt w0 g l u w) (hB : Below w0.heap.size w0 w) (hl : 0 < l.length) :
    Calls Try.prog 76 #[.pointer (some ⟨g, 0, none⟩)] w fun e w' => e = .returned (.int .i64 (leftL l u)) ∧ ∃ n, w' = w.drewN n := by
  have hu97 := Try.underlying97
  have hu110 := Try.underlying110
  obtain ⟨A, c, hb, hC, hc⟩ := h.ex
  have hc0 : w.cell? ⟨g, 0, none⟩ = some (.slice A l.length c) := (blk_cell hb 0).trans rfl
  have hc1 : w.cell? ⟨g, 1, none⟩ = some (.int .i64 u) := (blk_cell hb 1).trans rfl
  have HB := Aside0.mk hB
  have HC := Aside0.mk hC
  clear h hb hC hB hc
  have p0 : 0 ≤ (0 : Int) := Int.le_refl _
  have q0 : (0 : Int) < (l.length : Int) := by omega
  obtain ⟨ad0, e0, hx0, hx1⟩ := at_T97 HC.out (0 : Int) p0 q0
  cases e0
  replace hx0 := (HB.out.cell (World.block_lt_of_cell? w0 _ hx0)).trans hx0
  replace hx1 := (HB.out.cell (World.block_lt_of_cell? w0 _ hx1)).trans hx1
  simp only [show (0 : Int).toNat = 0 from rfl, Nat.zero_mul, Nat.reduceMul, Nat.reduceEqDiff, Go.Addr.add, ↓reduceIte] at hx0 hx1
  go_enter Try.func76, Try.ntmps76
  go_wp2
  go_quiet (fail)
  go_wp2
  first | go_ret | go_ret2
  exact ⟨rfl, _, rfl⟩


set_option maxRecDepth 100000 in
set_option maxHeartbeats 4000000 in
theorem take_calls (w0 : World) (g : Nat) (l : List S97) (u n : Int) (w : World) (h0 : w0.heap.size ≤ g) (h : RdSt w0 g l u w) (hB : Below w0.heap.size w0 w) (hl : 0 < l.length) :
    Calls Try.prog 77 #[.pointer (some ⟨g, 0, none⟩), .int .i64 n] w fun e w' => e = .returned (.tuple #[]) ∧ RdMv g w w' ∧ RdSt w0 g (takeL l u n) (takeU l u n) w' := by
  have hu97 := Try.underlying97
  have hu110 := Try.underlying110
  obtain ⟨A, c, hb, hC, hc⟩ := h.ex
  have hc0 : w.cell? ⟨g, 0, none⟩ = some (.slice A l.length c) := (blk_cell hb 0).trans rfl
  have hc1 : w.cell? ⟨g, 1, none⟩ = some (.int .i64 u) := (blk_cell hb 1).trans rfl
  have hf0 := blk_frozen hb 0
  have hf1 := blk_frozen hb 1
  have HB := Aside0.mk hB
  have HC := Aside0.mk hC
  have HBL := Aside0.mk hb
  have HCC := Aside0.mk hc
  have H0 := Aside0.mk h0
  have hgs : g < w.heap.size := blk_lt hb
  clear h hb hC hB hc h0
  have p0 : 0 ≤ (0 : Int) := Int.le_refl _
  have q0 : (0 : Int) < (l.length : Int) := by omega
  obtain ⟨ad0, e0, hx0, hx1⟩ := at_T97 HC.out (0 : Int) p0 q0
  cases e0
  have HGN : Aside0 (g ≠ ad0.block) := ⟨fun e => by have := World.block_lt_of_cell? w0 _ hx0; have := H0.out; simp [Go.Addr.add] at *; omega⟩
  replace hx0 := (HB.out.cell (World.block_lt_of_cell? w0 _ hx0)).trans hx0
  replace hx1 := (HB.out.cell (World.block_lt_of_cell? w0 _ hx1)).trans hx1
  simp only [show (0 : Int).toNat = 0 from rfl, Nat.zero_mul, Nat.reduceMul, Nat.reduceEqDiff, Go.Addr.add, ↓reduceIte] at hx0 hx1
  have HMV := Aside0.mk (RdMv.put (i := 1) (v := .int .i64 (wrap64 (u + n))) (RdMv.refl (g := g) (w := w)) HBL.out)
  by_cases c1 : wrap64 (u + n) = (rd_T97 l 0).f1
  · have e : takeL l u n = l.drop 1 := if_pos c1
    have e' : takeU l u n = 0 := if_pos c1
    have c1b : (wrap64 (u + n) == (rd_T97 l 0).f1) = true := beq_iff_eq.mpr c1
    rw [e, e']
    obtain ⟨lt, hlt⟩ : ∃ x, x = l.drop 1 := ⟨_, rfl⟩
    rw [← hlt]
    have HLT := Aside0.mk hlt
    clear e e' c1 hlt
    have hy1 := (World.cell?_setCell_far w ⟨g, 1, none⟩ ⟨ad0.block, ad0.off + 1, none⟩ (.int .i64 (wrap64 (u + n))) (fun e => HGN.out e)).trans hx1
    go_enter Try.func77, Try.ntmps77
    go_wp2
    go_quiet (fail)
    go_wp2
    all_goals
      have HCN := Aside0.mk (Kd.C_drop HC.out (m := 1) (by omega) HCC.out)
      first | rw [if_neg h] at HCN | rw [if_pos h] at HCN
      rw [← HLT.out] at HCN
      have hlen : lt.length = l.length - 1 := by rw [HLT.out, List.length_drop]
      go_end0
      refine ⟨rfl, RdMv.put (RdMv.put (RdMv.drew _ HMV.out) (blk_drewN (blk_put HBL.out 1 _ rfl) _)) (blk_put (blk_drewN (blk_put HBL.out 1 _ rfl) _) 0 _ rfl), ?_⟩
      first | refine ⟨_, c - 1, ?_, HCN.out, by have := HCC.out; omega⟩ | refine ⟨_, 0, ?_, HCN.out, by have := HCC.out; omega⟩
      rw [hlen]
      first | exact blk_put (blk_put (blk_drewN (blk_put HBL.out 1 _ rfl) _) 0 _ rfl) 1 _ rfl | (subst h; exact blk_put (blk_put (blk_drewN (blk_put HBL.out 1 _ rfl) _) 0 _ rfl) 1 _ rfl)
  · have e : takeL l u n = l := if_neg c1
    have e' : takeU l u n = wrap64 (u + n) := if_neg c1
    have c1b : (wrap64 (u + n) == (rd_T97 l 0).f1) = false := beq_eq_false_iff_ne.mpr c1
    rw [e, e']
    clear e e' c1
    have hy1 := (World.cell?_setCell_far w ⟨g, 1, none⟩ ⟨ad0.block, ad0.off + 1, none⟩ (.int .i64 (wrap64 (u + n))) (fun e => HGN.out e)).trans hx1
    go_enter Try.func77, Try.ntmps77
    go_wp2
    go_quiet (fail)
    go_wp2
    go_end0
    exact ⟨rfl, RdMv.drew _ HMV.out, _, _, blk_drewN (blk_put HBL.out 1 _ rfl) _, HC.out, HCC.out⟩

end Go.Proofs.Ytdgemabmmomebaa.PAxis

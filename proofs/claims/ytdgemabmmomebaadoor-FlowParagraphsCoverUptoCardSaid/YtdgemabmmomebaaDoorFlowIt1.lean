/- The paragraphs of a flow, as its iterator yields them. -/
import Derived.Test.YtdgemabmmomebaaDoorPFlowx0
import Derived.Test.YtdgemabmmomebaaDoorChecked
import Derived.RangeFuncBox
import Derived.RangeFuncNested
import Derived.RangeFuncBound
import Derived.RangeFuncCalls
import Derived.RangeFuncLeaves
import Derived.Shelf.Abstract
import Derived.Shelf.RegionOpen
import Derived.WalkKit
import Derived.OwnWalkIn
import Derived.TacticsInMore
import Derived.LoopNIn
import Derived.LoopIn
namespace Go.Proofs.YtdgemabmmomebaaDoor.PFlow
open Go.RowKit Go.Shelf Go.Proofs.YtdgemabmmomebaaDoorW.PrintWords Go.Proofs.YtdgemabmmomebaaDoorW.PrintLast Go.Proofs.YtdgemabmmomebaaDoorW.PrintMore
set_option linter.unusedVariables false
set_option linter.unusedSimpArgs false
attribute [local go_sem] Oper.semAt_some

/-- The paragraphs from element i on; the first one begins at fr. -/
def parsFrom : Nat → Nat → List S31 → List (Nat × Nat)
  | _, _, [] => []
  | i, fr, x :: r => if x.f0 ≠ 10 ∨ x.f1 ≠ 0 then parsFrom (i + 1) fr r else (fr, i + 1) :: parsFrom (i + 1) (i + 1) r
theorem drop_T31 (l : List S31) (i : Nat) (h : i < l.length) : l.drop i = rd_T31 l (i : Int) :: l.drop (i + 1) := by
  rw [List.drop_eq_getElem_cons h]
  simp [rd_T31, List.getD_eq_getElem?_getD, List.getElem?_eq_getElem h]

set_option maxRecDepth 100000 in
set_option maxHeartbeats 4000000 in
theorem iter_in (F : Fence) (n : Nat) (h26 : F.fn 26) (hro : F.round = none) (hn : 1 ≤ n) (l Bs : Nat) (w0 : World) (A : Option Addr) (c : Nat) (ls : List S31) (hlen : ls.length ≤ 1048576) (hC : Kd.C k31 w0 A ls.length ls) (J Jx : List (Nat × Nat) → World → Prop)
    (hY : ∀ pre x W, J pre W → pre.length < ls.length → YieldAt F (n - 1) Tryd.prog l #[.int .i64 (x.1 : Int), .int .i64 (x.2 : Int)] W fun e W' =>
      (e = .returned (.bool true) ∧ J (pre ++ [x]) W' ∧ Below w0.heap.size W W') ∨ (e = .returned (.bool false) ∧ Jx (pre ++ [x]) W'))
    (W : World) (hBW : Below w0.heap.size w0 W) (hJ : AbidesFrom W.heap.size J) (hBs : W.cell? ⟨Bs, 0, none⟩ = some (.slice A ls.length c)) (h0 : J [] W) :
    CallsIn F n Tryd.prog 26 #[.func (.yield l) #[] #[], .pointer (some ⟨Bs, 0, none⟩)] W fun e W' => (∃ v, e = .returned v) ∧
      ((∃ ys, ys = parsFrom 0 0 ls ∧ J ys W') ∨ (∃ pre, pre <+: parsFrom 0 0 ls ∧ Jx pre W')) := by
  have hu31 := Tryd.underlying31
  refine callsIn_of_wp Tryd.func26 rfl h26 ?_ hro
  simp only [Tryd.ntmps26, List.size_toArray, List.length_cons, List.length_nil, Nat.reduceAdd, Nat.reduceSub, Array.replicate_succ, Array.replicate_zero, List.push_toArray, List.append_toArray, List.nil_append, List.cons_append]
  gi_wp2
  gi_loopw [3, 8] (fun v3 v8 wr => ∃ (k fr : Nat) (pre : List (Nat × Nat)), k ≤ ls.length ∧ v8 = .int .i64 (k : Int) ∧ v3 = .int .i64 (fr : Int) ∧ parsFrom 0 0 ls = pre ++ parsFrom k fr (ls.drop k) ∧ pre.length ≤ k ∧ J pre wr ∧ Below w0.heap.size w0 wr)
    (fun _ v8 _ => ls.length - (intOf v8).toNat)
  case atStart => exact ⟨0, 0, [], Nat.zero_le _, rfl, rfl, rfl, Nat.le_refl _, h0, hBW⟩
  case round =>
    obtain ⟨k, fr, pre, hk, rfl, rfl, hp, hpl, hJs, hB⟩ := hrel
    by_cases hlt : k < ls.length
    · obtain ⟨ad, A2, cc, e0, hx0, hx1, hx2, hxl, hxc⟩ := at_T31 hC (k : Int) (by omega) (by omega)
      subst e0
      replace hx0 := (hB.cell (World.block_lt_of_cell? w0 _ hx0)).trans hx0
      replace hx1 := (hB.cell (World.block_lt_of_cell? w0 _ hx1)).trans hx1
      replace hx2 := (hB.cell (World.block_lt_of_cell? w0 _ hx2)).trans hx2
      simp only [Int.toNat_natCast] at hx0 hx1 hx2
      have hd := drop_T31 ls k hlt
      rw [hd, parsFrom] at hp
      obtain ⟨x, hx⟩ : ∃ x, x = rd_T31 ls (k : Int) := ⟨_, rfl⟩
      rw [← hx] at hx0 hx1 hx2 hp
      clear hd hx hxl hxc
      have hw : ∀ o, J pre (wr.alloc o) := fun o => hJ pre wr _ none hJs ⟨rfl, rfl, rfl, by rw [World.size_alloc]; omega, fun j hj _ => (Below.heap_alloc wr o j hj)⟩ (fun r e => by cases e)
      have hB' : ∀ o, Below w0.heap.size w0 (wr.alloc o) := fun o => below_alloc hB o
      by_cases c1 : x.f0 ≠ 10
      · rw [if_pos (.inl c1)] at hp
        have c1b : (x.f0 != 10) = true := bne_iff_ne.mpr c1
        gi_wp2
        exact ⟨⟨k + 1, fr, pre, by omega, by simp, rfl, hp, by omega, hw _, hB' _⟩, by simp [intOf]; omega⟩
      · have c1b : (x.f0 != 10) = false := by simpa using c1
        by_cases c2 : x.f1 ≠ 0
        · rw [if_pos (.inr c2)] at hp
          have c2b : (x.f1 != 0) = true := bne_iff_ne.mpr c2
          gi_wp2
          exact ⟨⟨k + 1, fr, pre, by omega, by simp, rfl, hp, by omega, hw _, hB' _⟩, by simp [intOf]; omega⟩
        · have c2b : (x.f1 != 0) = false := by simpa using c2
          rw [if_neg (fun h => h.elim c1 c2)] at hp
          obtain ⟨fn, tmps, assign, body, hy, hR⟩ := hY pre (fr, k + 1) (wr.alloc (Obj.cells #[Value.int IntKind.i64 x.f0, Value.int IntKind.i64 x.f1, Value.slice A2 x.f2.length cc] 31)) (hw _) (by omega)
          dsimp only at hy
          rw [show ((k + 1 : Nat) : Int) = (k : Int) + 1 from by omega] at hy
          gi_wp2
          refine hR.mono ?_
          rintro e W3 (⟨rfl, hJ3, hk3⟩ | ⟨rfl, hJx3⟩)
          · gi_wp2
            exact ⟨⟨k + 1, k + 1, pre ++ [(fr, k + 1)], by omega, by simp, by simp, by rw [hp]; simp, by simp; omega, hJ3, (hB' _).trans hk3⟩, by simp [intOf]; omega⟩
          · gi_wp2
            refine bodyPost_ret (results_none rfl _ _ _) rfl ?_
            exact ⟨⟨_, rfl⟩, .inr ⟨_, ⟨parsFrom (k + 1) (k + 1) (ls.drop (k + 1)), by rw [hp]; simp⟩, hJx3⟩⟩
    · obtain rfl : k = ls.length := by omega
      gi_wp2
      go_end0
      exact ⟨⟨_, rfl⟩, .inl ⟨pre, by rw [hp, List.drop_length]; simp [parsFrom], hJs⟩⟩
end Go.Proofs.YtdgemabmmomebaaDoor.PFlow

/- axis.Pair as the printed texts take it. -/
-- PLUG axis.Pair rounds making
import Derived.Test.YtdgemabmmomebaaAxisPlugP2
namespace Go.Proofs.Ytdgemabmmomebaa.PAxis
open Go.RowKit Go.Proofs.YtdgemabmmomebaaW.PrintWords Go.Proofs.YtdgemabmmomebaaW.PrintLast Go.Proofs.YtdgemabmmomebaaW.PrintMore
def axis_Pair.f (k : Nat) (l0 l1 : List S97) : Option (List S97 × List S97 × Int) := pairF k l0 l1
theorem axis_Pair.mono : ∀ a0 a1 k, LeO (axis_Pair.f k a0 a1) (axis_Pair.f (k + 1) a0 a1) := by
  intro a b k
  refine LeO.bind (axis_Check.mono _ k) (fun e => LeO.ite (LeO.refl _) (LeO.bind (axis_Check.mono _ k) (fun e' => LeO.ite (LeO.refl _) (LeO.bind (axis_lengths.mono _ k) (fun n => LeO.bind (axis_lengths.mono _ k) (fun m => LeO.ite (LeO.refl _) (LeO.bind (pairL_mono k _ _ _ _ _ _) (fun z => LeO.ite (LeO.refl _) (LeO.bind (doneF_mono _ k) (fun x => LeO.bind (doneF_mono _ k) (fun y => LeO.refl _)))))))))))
theorem axis_Pair.calls (k : Nat) (A0 : Option Addr) (c0 : Nat) (l0 : List (S97)) (A1 : Option Addr) (c1 : Nat) (l1 : List (S97)) (r1 r2 : List (S97)) (r3 : Int) (w : World) (hr0 : Kd.C k97 w A0 l0.length l0) (hc0 : l0.length ≤ c0) (hr1 : Kd.C k97 w A1 l1.length l1) (hc1 : l1.length ≤ c1) (h : axis_Pair.f k l0 l1 = some (r1, r2, r3)) :
    Calls Try.prog 37 #[.slice A0 l0.length c0, .slice A1 l1.length c1] w fun e w' => ∃ v0_ v1_ : Value, e = .returned (.tuple #[v0_, v1_, .int .i64 r3]) ∧ Kd.R k97 97 w' w.heap.size (fun k_ => some k_ ≠ (v1_ : Value).ownBlock) v0_ r1 ∧ Kd.R k97 97 w' w.heap.size (fun k_ => some k_ ≠ (v0_ : Value).ownBlock) v1_ r2 ∧ Below w.heap.size w w' := pair_calls k A0 c0 l0 A1 c1 l1 r1 r2 r3 w hr0 hc0 hr1 hc1 h
end Go.Proofs.Ytdgemabmmomebaa.PAxis

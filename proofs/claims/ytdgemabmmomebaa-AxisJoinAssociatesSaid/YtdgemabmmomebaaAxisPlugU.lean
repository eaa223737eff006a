/- axis.Undo as the printed texts take it. -/
-- PLUG axis.Undo rounds making
import Derived.Test.YtdgemabmmomebaaAxisPlugU1
namespace Go.Proofs.Ytdgemabmmomebaa.PAxis
open Go.RowKit Go.Proofs.YtdgemabmmomebaaW.PrintWords Go.Proofs.YtdgemabmmomebaaW.PrintLast Go.Proofs.YtdgemabmmomebaaW.PrintMore
def axis_Undo.f (k : Nat) (l0 : List S97) : Option (List S97 × Int) := undoF k l0
theorem axis_Undo.mono : ∀ a0 k, LeO (axis_Undo.f k a0) (axis_Undo.f (k + 1) a0) := undoF_mono
theorem axis_Undo.calls (k : Nat) (A0 : Option Addr) (c0 : Nat) (l0 : List (S97)) (r1 : List (S97)) (r2 : Int) (w : World) (hr0 : Kd.C k97 w A0 l0.length l0) (hc0 : l0.length ≤ c0) (h : axis_Undo.f k l0 = some (r1, r2)) :
    Calls Try.prog 35 #[.slice A0 l0.length c0] w fun e w' => ∃ v0_ : Value, e = .returned (.tuple #[v0_, .int .i64 r2]) ∧ Kd.R k97 97 w' w.heap.size (fun _ => True) v0_ r1 ∧ Below w.heap.size w w' := undo_calls k A0 c0 l0 r1 r2 w hr0 hc0 h
end Go.Proofs.Ytdgemabmmomebaa.PAxis

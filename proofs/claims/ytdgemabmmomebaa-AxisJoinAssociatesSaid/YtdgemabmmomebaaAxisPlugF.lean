/- fitting as the printed texts take it. -/
-- PLUG chancerykeep1.fitting rounds making
import Derived.Test.YtdgemabmmomebaaAxisPlug9
namespace Go.Proofs.Ytdgemabmmomebaa.PAxis
open Go.RowKit Go.Proofs.YtdgemabmmomebaaW.PrintWords Go.Proofs.YtdgemabmmomebaaW.PrintLast Go.Proofs.YtdgemabmmomebaaW.PrintMore
def chancerykeep1_fitting.f (k : Nat) (n : Int) (raw : List Int) : Option (List S97) := fittingF k n raw
theorem chancerykeep1_fitting.mono : ∀ a0 a1 k, LeO (chancerykeep1_fitting.f k a0 a1) (chancerykeep1_fitting.f (k + 1) a0 a1) := fun n raw k => fittingF_mono n raw k
theorem chancerykeep1_fitting.calls (k : Nat) (n : Int) (A0 : Option Addr) (c0 : Nat) (raw : List Int) (r : List S97) (w : World) (hr0 : Kd.C (Kd.int .i64) w A0 raw.length raw) (hc0 : raw.length ≤ c0) (h : chancerykeep1_fitting.f k n raw = some r) :
    Calls Try.prog 31 #[.int .i64 n, .slice A0 raw.length c0] w fun e w' => ∃ v0_ : Value, e = .returned v0_ ∧ Kd.R k97 97 w' w.heap.size (fun _ => True) v0_ r ∧ Below w.heap.size w w' := fitting_calls k n A0 c0 raw r w hr0 hc0 h
end Go.Proofs.Ytdgemabmmomebaa.PAxis

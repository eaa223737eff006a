/- Lists of attributes as arguments: what the bound gives. -/
import Derived.Test.YtdgemabmmomebaaArg
import Derived.Test.YtdgemabmmomebaaAttrPure4
namespace Go.Proofs.Ytdgemabmmomebaa.PAttr
open Go.RowKit Go.Proofs.Ytdgemabmmomebaa.Arg Go.Proofs.YtdgemabmmomebaaW.PrintWords
def m38 (x : S38) : Nat := x.f0.size + 1 + (x.f1.size + 1) + 1
theorem opens38 : Opens Try.prog 38 k38 m38 (fun _ => True) :=
  opens_mono (opens_iso (opens_struct Try.underlying38 (by kernel_rfl) (opens_cons (opens_string Try.underlying9) (by kernel_rfl) rfl (opens_one (opens_string Try.underlying9) (by kernel_rfl) rfl))) (fun x : S38 => (x.f0, x.f1)) (fun p => ⟨p.1, p.2⟩) (fun _ => rfl))
    (fun x => Nat.le_refl _) (fun _ _ => trivial)
theorem fine38 {l : List S38} (h : (l.map m38).sum + 1 ≤ 1048576) (_ : ∀ x ∈ l, True) : Fine l := by
  have h1 := sum_len m38 (l := l) (fun x _ => by unfold m38; omega)
  refine ⟨by omega, fun x hx => ?_⟩
  have h2 := sum_mem m38 hx
  unfold m38 at h2 h
  constructor <;> omega
end Go.Proofs.Ytdgemabmmomebaa.PAttr

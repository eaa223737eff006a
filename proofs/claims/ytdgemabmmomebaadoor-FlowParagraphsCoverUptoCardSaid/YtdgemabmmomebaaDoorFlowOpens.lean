/- Flows and lists of attributes as arguments: what the bound gives. -/
import Derived.Test.YtdgemabmmomebaaDoorArg
import Derived.Test.YtdgemabmmomebaaDoorFlowA2
namespace Go.Proofs.YtdgemabmmomebaaDoor.PFlow
open Go.RowKit Go.Proofs.YtdgemabmmomebaaDoor.Arg Go.Proofs.YtdgemabmmomebaaDoorW.PrintWords
def m51 (x : S51) : Nat := x.f0.size + 1 + (x.f1.size + 1) + 1
theorem opens51 : Opens Tryd.prog 51 k51 m51 (fun _ => True) :=
  opens_mono (opens_iso (opens_struct Tryd.underlying51 (by kernel_rfl) (opens_cons (opens_string Tryd.underlying9) (by kernel_rfl) rfl (opens_one (opens_string Tryd.underlying9) (by kernel_rfl) rfl))) (fun x : S51 => (x.f0, x.f1)) (fun p => ⟨p.1, p.2⟩) (fun _ => rfl))
    (fun x => Nat.le_refl _) (fun _ _ => trivial)
def m31 (x : S31) : Nat := 1 + (1 + ((x.f2.map m51).sum + 1)) + 1
theorem opens31 : Opens Tryd.prog 31 k31 m31 (fun _ => True) :=
  opens_mono (opens_iso (opens_struct Tryd.underlying31 (by kernel_rfl) (opens_cons (opens_int Tryd.underlying3) (by kernel_rfl) rfl (opens_cons (opens_int Tryd.underlying3) (by kernel_rfl) rfl (opens_one (opens_slice Tryd.underlying22 opens51 (by kernel_rfl)) (by kernel_rfl) rfl)))) (fun x : S31 => (x.f0, x.f1, x.f2)) (fun p => ⟨p.1, p.2.1, p.2.2⟩) (fun _ => rfl))
    (fun x => Nat.le_refl _) (fun _ _ => trivial)
theorem small51 {l : List S51} (h : (l.map m51).sum + 1 ≤ 1048576) : Small l ∧ l.length ≤ 1048576 := by
  have h1 := sum_len m51 (l := l) (fun x _ => by unfold m51; omega)
  refine ⟨⟨by omega, fun x hx => ?_⟩, by omega⟩
  have h2 := sum_mem m51 hx
  unfold m51 at h2 h
  constructor <;> omega
theorem fine51 {l : List S51} (h : (l.map m51).sum + 1 ≤ 1048576) (_ : ∀ x ∈ l, True) : Small l ∧ l.length ≤ 1048576 := small51 h
theorem fine31 {l : List S31} (h : (l.map m31).sum + 1 ≤ 1048576) (_ : ∀ x ∈ l, True) : FSmall l := by
  have h1 := sum_len m31 (l := l) (fun x _ => by unfold m31; omega)
  refine ⟨by omega, fun x hx => ?_⟩
  have h2 := sum_mem m31 hx
  exact small51 (by unfold m31 at h2 h; omega)
end Go.Proofs.YtdgemabmmomebaaDoor.PFlow

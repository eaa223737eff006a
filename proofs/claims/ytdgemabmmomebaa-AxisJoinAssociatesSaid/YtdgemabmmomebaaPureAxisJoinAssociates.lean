/- Three changes of an axis can be joined in either order; a change and its Undo add and remove equally many rows. -/
import Derived.Test.YtdgemabmmomebaaAxisU5
import Derived.Test.YtdgemabmmomebaaPAxisxJ
namespace Go.Proofs.Ytdgemabmmomebaa.Pure
open Go.RowKit Go.Proofs.Ytdgemabmmomebaa.PAxis Go.Proofs.YtdgemabmmomebaaW.PrintWords Go.Proofs.YtdgemabmmomebaaW.PrintLast

theorem AxisJoinAssociates : chancerykeep1_AxisJoinAssociates.Pure := by
  intro a0 l1 l2 l3 _ _ _ _ _ _ _ _ _ _
  obtain ⟨n, hn, n0, n1⟩ := within_ok a0 0 20 (Int.le_refl _) (by decide) (by decide)
  refine ⟨100000, ?_⟩
  obtain ⟨a, ga, fa, ba, la⟩ := fitting_ok n l1 100000 n0 (by omega) (by omega)
  have aa := aft_len (ex a)
  obtain ⟨b, gb, fb, bb, lb⟩ := fitting_ok (aft (ex a) : Nat) l2 100000 (by omega) (by omega) (by omega)
  have ab_ := aft_len (ex b)
  obtain ⟨c, gc, fc, bc_, lc⟩ := fitting_ok (aft (ex b) : Nat) l3 100000 (by omega) (by omega) (by omega)
  rw [Int.toNat_natCast] at bb bc_ lb lc
  obtain ⟨ab, u1, g1, f1, j1, e1⟩ := join_ok (k := 100000) fa fb bb.symm (by omega) (by omega)
  obtain ⟨bc, u2, g2, f2, j2, e2⟩ := join_ok (k := 100000) fb fc bc_.symm (by omega) (by omega)
  have z1 := e1.len
  have z2 := e2.len
  have y1 := j1.counts
  have y2 := j2.counts
  obtain ⟨one, u3, g3, f3, j3, e3⟩ := join_ok (k := 100000) f1 fc (by rw [e1.aft, y1.2.1, bc_]) (by omega) (by omega)
  obtain ⟨two, u4, g4, f4, j4, e4⟩ := join_ok (k := 100000) fa f2 (by rw [e2.bef, y2.1, bb]) (by omega) (by omega)
  obtain ⟨u, gu, fu, eu⟩ := undo_ok (k := 100000) fa (by omega) (by omega)
  have hu1 : bef (ex u) = aft (ex a) := by rw [eu.bef, inv_bef]
  have hu2 : aft (ex u) = bef (ex a) := by rw [eu.aft, inv_aft]
  have hul := eu.len
  rw [List.length_map] at hul
  have hsame := join_assoc j1 j2 j3 j4 e1 e2 e3 e4 f3 f4
  subst hsame
  have z3 := Fn.len _ _ f3
  have z4 := e3.len
  have z5 := j3.counts.2.2.2
  have hL : ∀ {l : List S97}, PAxis.Fn (-1) l → (ex l).length ≤ 1000 → axis_Lengths.f 100000 l = some (((bef (ex l) : Nat) : Int), ((aft (ex l) : Nat) : Int), 0) := by
    intro l h1 h2
    rw [axis_Lengths.f, check_ok h1 (by omega) (by omega), Option.bind_some, if_pos rfl, lengths_ok h1 (by omega) (by omega)]
    rfl
  have hLu := hL fu (by omega)
  rw [chancerykeep1_AxisJoinAssociates.f, axes_ok (by decide), Option.bind_some, if_pos rfl, hn, Option.bind_some]
  rw [show chancerykeep1_fitting.f 100000 n l1 = some a from ga, Option.bind_some, hL fa (by omega), Option.bind_some]
  rw [show chancerykeep1_fitting.f 100000 (((bef (ex a) : Nat) : Int), ((aft (ex a) : Nat) : Int), (0 : Int)).2.1 l2 = some b from gb, Option.bind_some, hL fb (by omega), Option.bind_some]
  rw [show chancerykeep1_fitting.f 100000 (((bef (ex b) : Nat) : Int), ((aft (ex b) : Nat) : Int), (0 : Int)).2.1 l3 = some c from gc, Option.bind_some]
  rw [show axis_Join.f 100000 a b = some (ab, 0) from g1, Option.bind_some]
  rw [show axis_Join.f 100000 b c = some (bc, 0) from g2, Option.bind_some]
  rw [show axis_Join.f 100000 (ab, (0 : Int)).1 c = some (one, 0) from g3, Option.bind_some]
  rw [show axis_Join.f 100000 a (bc, (0 : Int)).1 = some (one, 0) from g4, Option.bind_some]
  rw [show axis_Undo.f 100000 a = some (u, 0) from gu, Option.bind_some, Option.bind_some]
  rw [show axis_Lengths.f 100000 (u, (0 : Int)).1 = some (((bef (ex u) : Nat) : Int), ((aft (ex u) : Nat) : Int), 0) from hLu, Option.bind_some]
  rw [if_pos rfl, if_pos rfl, if_pos rfl, if_pos rfl, if_pos rfl, if_pos rfl, if_pos rfl, same_ok one (by omega) (by omega), Option.bind_some, if_pos rfl, hu1, hu2, if_pos rfl]
  simp
end Go.Proofs.Ytdgemabmmomebaa.Pure

/- Two changes of one axis, rebased over each other, give one change in both orders. -/
import Derived.Test.YtdgemabmmomebaaAxisU4
import Derived.Test.YtdgemabmmomebaaPAxisx7
namespace Go.Proofs.Ytdgemabmmomebaa.PAxis
open Go.RowKit Go.Proofs.YtdgemabmmomebaaW.PrintWords Go.Proofs.YtdgemabmmomebaaW.PrintLast Go.Proofs.YtdgemabmmomebaaW.PrintMore
set_option maxRecDepth 100000 in
theorem axes_ok {k : Nat} (hk : 100 ≤ k) : chancerykeep1_axes.f k = some true := at_rounds chancerykeep1_axes.mono hk (by kernel_rfl : chancerykeep1_axes.f 100 = some true)
theorem pair_meets {a b x y one two : List S97} {u v u1 u2 : List Un} {n : Nat} (ha : bef (ex a) = n) (hb : bef (ex b) = n) (hp : PairR (ex a) (ex b) u v) (hx : E (ex x) u) (hy : E (ex y) v)
    (h1 : JoinR (ex a) (ex y) u1) (h2 : JoinR (ex b) (ex x) u2) (e1 : E (ex one) u1) (e2 : E (ex two) u2) (f1 : Fn (-1) one) (f2 : Fn (-1) two) : one = two := by
  have b1 : bef (ex one) = n := by rw [e1.bef, h1.counts.1, ha]
  have b2 : bef (ex two) = n := by rw [e2.bef, h2.counts.1, hb]
  refine same_steps f1 f2 (by rw [b1, b2]) ?_
  rw [b1, e1.act_, e2.act_, ← h1.acts _ (by rw [rows_len, ha]), ← h2.acts _ (by rw [rows_len, hb]), hy.act_, hx.act_]
  exact hp.acts _ (by rw [rows_len, ha])
end Go.Proofs.Ytdgemabmmomebaa.PAxis
namespace Go.Proofs.Ytdgemabmmomebaa.Pure
open Go.RowKit Go.Proofs.Ytdgemabmmomebaa.PAxis Go.Proofs.YtdgemabmmomebaaW.PrintWords Go.Proofs.YtdgemabmmomebaaW.PrintLast

theorem AxisPairMeets : chancerykeep1_AxisPairMeets.Pure := by
  intro a0 l1 l2 _ _ _ _ _ _ _
  obtain ⟨n, hn, n0, n1⟩ := within_ok a0 0 20 (Int.le_refl _) (by decide) (by decide)
  refine ⟨100000, ?_⟩
  obtain ⟨a, ga, fa, ba, la⟩ := fitting_ok n l1 100000 n0 (by omega) (by omega)
  obtain ⟨b, gb, fb, bb, lb⟩ := fitting_ok n l2 100000 n0 (by omega) (by omega)
  obtain ⟨x, y, u, v, gp, fx, fy, hp, ex_, ey⟩ := pair_ok (k := 100000) fa fb (by rw [ba, bb]) (by omega) (by omega)
  have hc := hp.counts
  have lx := ex_.len
  have ly := ey.len
  obtain ⟨one, u1, g1, f1, j1, e1⟩ := join_ok (k := 100000) fa fy (by rw [ey.bef]; exact hc.2.2.1.symm) (by omega) (by omega)
  obtain ⟨two, u2, g2, f2, j2, e2⟩ := join_ok (k := 100000) fb fx (by rw [ex_.bef]; exact hc.2.1.symm) (by omega) (by omega)
  have hsame := pair_meets ba bb hp ex_ ey j1 j2 e1 e2 f1 f2
  have z1 := Fn.len _ _ f1
  have z2 := e1.len
  have z3 := j1.counts.2.2.2
  subst hsame
  rw [chancerykeep1_AxisPairMeets.f, axes_ok (by decide), Option.bind_some, if_pos rfl, hn, Option.bind_some]
  rw [show chancerykeep1_fitting.f 100000 n l1 = some a from ga, Option.bind_some]
  rw [show chancerykeep1_fitting.f 100000 n l2 = some b from gb, Option.bind_some]
  rw [show axis_Pair.f 100000 a b = some (x, y, 0) from gp, Option.bind_some]
  rw [show axis_Join.f 100000 a y = some (one, 0) from g1, Option.bind_some]
  rw [show axis_Join.f 100000 b x = some (one, 0) from g2, Option.bind_some]
  rw [if_pos rfl, if_pos rfl, if_pos rfl, same_ok one (by omega) (by omega)]
  rfl
end Go.Proofs.Ytdgemabmmomebaa.Pure

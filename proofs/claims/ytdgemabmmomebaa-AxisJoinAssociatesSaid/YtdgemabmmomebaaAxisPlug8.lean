/- The reference's Steps. -/
import Derived.Test.YtdgemabmmomebaaAxisPlug7
import Derived.Test.YtdgemabmmomebaaAxisPlug1
namespace Go.Proofs.Ytdgemabmmomebaa.PAxis
open Go.RowKit Go.Proofs.YtdgemabmmomebaaW.PrintWords Go.Proofs.YtdgemabmmomebaaW.PrintLast Go.Proofs.YtdgemabmmomebaaW.PrintMore
set_option linter.unusedVariables false
set_option linter.unusedSimpArgs false

/-- What is counted. -/
structure N3 where
  l : List Int
  a : Int
  b : Int
  c : Int
def takeRun (k : Bool) : List Int → Int → Int → Int → N3
  | [], a, b, c => ⟨[], a, b, c⟩
  | x :: r, a, b, c => if ((x == 0) == k) = true then takeRun k r (if x = 0 then a + 1 else a) (if x = 1 then b + 1 else b) (if x = 2 then c + 1 else c) else ⟨x :: r, a, b, c⟩
def appsL (out : List S97) (t : N3) : List S97 := app1 (app1 (app1 out 0 t.a) 1 t.b) 2 t.c
def stepsL : Nat → List Int → List S97 → Option (List S97)
  | 0, _, _ => none
  | m + 1, l, out => if 4398046511104 < out.length then none else if l.length = 0 then some out else stepsL m (takeRun (rd l 0 == 0) l 0 0 0).l (appsL out (takeRun (rd l 0 == 0) l 0 0 0))
theorem stepsL_mono : ∀ (m : Nat) (l : List Int) (out : List S97), LeO (stepsL m l out) (stepsL (m + 1) l out)
  | 0, _, _ => fun r h => by cases h
  | m + 1, l, out => by
    rw [stepsL, stepsL]
    exact LeO.ite (LeO.refl _) (LeO.ite (LeO.refl _) (stepsL_mono m _ _))
theorem app1_len (out : List S97) (k n : Int) : (app1 out k n).length ≤ out.length + 1 := by
  unfold app1
  split <;> simp

theorem drop_rd (l : List Int) (i : Nat) (h : i < l.length) : l.drop i = rd l (i : Int) :: l.drop (i + 1) := by
  rw [List.drop_eq_getElem_cons h]
  simp [rd, List.getD_eq_getElem?_getD, List.getElem?_eq_getElem h]

/-- What the walk holds: the row of steps, the block of counts. -/
structure StAt (w0 : World) (g : Nat) (out : List S97) (a b c : Int) (v : Value) (w : World) : Prop where
  row : Kd.R k97 97 w w0.heap.size (fun _ => True) v out
  bel : Below w0.heap.size w0 w
  blk : w.heap[g]? = some (.cells #[.int .i64 a, .int .i64 b, .int .i64 c] 146 (0, 0))
  lg : w0.heap.size ≤ g
theorem StAt.app {w0 w w1 : World} {g : Nat} {out out' : List S97} {a b c : Int} {v v1 : Value} (h : StAt w0 g out a b c v w) (hR : Kd.R k97 97 w1 w0.heap.size (fun _ => True) v1 out') (hB : Below w0.heap.size w0 w1) (hg : w.grownBy w1 v.ownBlock) :
    StAt w0 g out' a b c v1 w1 := ⟨hR, hB, blk_grown h.blk hg (Kd.R_ne h.row h.blk (by decide)), h.lg⟩

theorem StAt.put_a {w0 w : World} {g : Nat} {out : List S97} {a b c : Nat} {v : Value} (h : StAt w0 g out a b c v w) : StAt w0 g out ((a + 1 : Nat) : Int) b c v (w.setCell ⟨g, 0, none⟩ (.int .i64 ((a : Int) + 1))) :=
  ⟨Kd.R_set h.row h.blk (by decide) _ _, below_set h.bel h.lg, blk_put h.blk 0 _ rfl, h.lg⟩
theorem StAt.put_b {w0 w : World} {g : Nat} {out : List S97} {a b c : Nat} {v : Value} (h : StAt w0 g out a b c v w) : StAt w0 g out a ((b + 1 : Nat) : Int) c v (w.setCell ⟨g, 1, none⟩ (.int .i64 ((b : Int) + 1))) :=
  ⟨Kd.R_set h.row h.blk (by decide) _ _, below_set h.bel h.lg, blk_put h.blk 1 _ rfl, h.lg⟩
theorem StAt.put_c {w0 w : World} {g : Nat} {out : List S97} {a b c : Nat} {v : Value} (h : StAt w0 g out a b c v w) : StAt w0 g out a b ((c + 1 : Nat) : Int) v (w.setCell ⟨g, 2, none⟩ (.int .i64 ((c : Int) + 1))) :=
  ⟨Kd.R_set h.row h.blk (by decide) _ _, below_set h.bel h.lg, blk_put h.blk 2 _ rfl, h.lg⟩
theorem StAt.drewN {w0 w : World} {g : Nat} {out : List S97} {a b c : Int} {v : Value} (h : StAt w0 g out a b c v w) (n : Nat) : StAt w0 g out a b c v (w.drewN n) :=
  ⟨Kd.R_drewN h.row n, pw_below_drewN h.bel n, blk_drewN h.blk n, h.lg⟩
/-- What is left to append from kind j on. -/
def appsFrom (j : Nat) (out : List S97) (a b c : Int) : List S97 := match j with
  | 0 => app1 (app1 (app1 out 0 a) 1 b) 2 c
  | 1 => app1 (app1 out 1 b) 2 c
  | 2 => app1 out 2 c
  | _ => out

set_option maxRecDepth 100000 in
set_option maxHeartbeats 8000000 in
theorem steps_calls (m : Nat) (A0 : Option Addr) (c0 : Nat) (units : List Int) (r : List S97) (w : World) (hr0 : Kd.C (Kd.int .i64) w A0 units.length units) (hc0 : units.length ≤ c0) (hall : ∀ x, x ∈ units → x = 0 ∨ x = 1 ∨ x = 2) (hlen : units.length ≤ 4398046511104) (h : stepsL m units [] = some r) :
    Calls Try.prog 71 #[.slice A0 units.length c0] w fun e w' => ∃ v0_ : Value, e = .returned v0_ ∧ Kd.R k97 97 w' w.heap.size (fun _ => True) v0_ r ∧ Below w.heap.size w w' := by
  have hu97 := Try.underlying97
  have HR0 := Aside0.mk hr0
  have HALL := Aside0.mk hall
  have HLEN := Aside0.mk hlen
  have HS := Aside0.mk (show stepsL m (units.drop 0) [] = some r from h)
  clear hr0 hc0 hall hlen h
  go_enter Try.func71, Try.ntmps71
  go_wp2
  go_loopg [3, 4] m (fun m v3 v4 wr => ∃ (i : Nat) (out : List S97), v4 = .int .i64 i ∧ i ≤ units.length ∧ Aside0 (Kd.R k97 97 wr w.heap.size (fun _ => True) v3 out) ∧ Aside0 (Below w.heap.size w wr) ∧ Aside0 (stepsL m (units.drop i) out = some r))
  case atStart => exact ⟨0, [], rfl, Nat.zero_le _, ⟨Kd.R_nil _ _ _ _ _⟩, ⟨Below.refl _ _⟩, HS⟩
  case round =>
    clear HS
    obtain ⟨i, out, rfl, hi, HR, HB, HL⟩ := hrel
    obtain ⟨A1, n1, e1⟩ := Kd.R_slice HR.out
    subst e1
    obtain ⟨gl, rfl⟩ : ∃ gl, gk = gl + 1 := by
      cases gk with
      | zero => exact absurd HL.out (by simp [stepsL])
      | succ n => exact ⟨n, rfl⟩
    have hL := HL.out
    rw [stepsL] at hL
    by_cases d1 : 4398046511104 < out.length
    · rw [if_pos d1] at hL
      cases hL
    rw [if_neg d1] at hL
    have HO := Aside0.mk d1
    clear d1 HL
    by_cases d2 : i < units.length
    · have hd := drop_rd units i d2
      rw [if_neg (by rw [hd]; simp)] at hL
      rw [show rd (units.drop i) 0 = rd units (i : Int) by rw [hd]; rfl] at hL
      have HL := Aside0.mk hL
      have f1 : decide ((i : Int) < (units.length : Int)) = true := decide_eq_true (by omega)
      have f1' : decide (i < units.length) = true := decide_eq_true d2
      have q1 : (i : Int) < (units.length : Int) := by omega
      obtain ⟨ad0, e0, hx0⟩ := Kd.at_int HR0.out (i : Int) (by omega) (by omega)
      cases e0
      have HX := Aside0.mk hx0
      clear hL hd hx0
      have HST := Aside0.mk (show StAt w wr.heap.size out 0 0 0 (.slice A1 out.length n1) (wr.alloc (Obj.cells #[Value.int IntKind.i64 0, Value.int IntKind.i64 0, Value.int IntKind.i64 0] 146 (0, 0))) from
        ⟨Kd.R_alloc HR.out _, below_alloc HB.out _, blk_new _ _, HB.out.size⟩)
      obtain ⟨T, hT⟩ : ∃ T, T = takeRun (rd units (i : Int) == 0) (units.drop i) 0 0 0 := ⟨_, rfl⟩
      rw [← hT] at HL
      have HT := Aside0.mk hT
      clear hT HR HB
      obtain ⟨x, hx⟩ : ∃ x, x = rd units (i : Int) := ⟨_, rfl⟩
      rw [← hx] at HX HT
      clear hx
      go_wp2
      obtain ⟨g, hg⟩ : ∃ g, g = wr.heap.size := ⟨_, rfl⟩
      rw [← hg] at HST
      rw [← hg]
      clear hg
      go_loopg [6] (units.length - i) (fun m v6 wr => ∃ (k a b c : Nat), v6 = .int .i64 k ∧ i ≤ k ∧ k ≤ units.length ∧ m = units.length - k ∧ a + b + c ≤ k ∧ Aside0 (StAt w g out a b c (.slice A1 out.length n1) wr) ∧ Aside0 (takeRun (x == 0) (units.drop k) a b c = T))
      case atStart => exact ⟨i, 0, 0, 0, rfl, Nat.le_refl _, hi, rfl, by omega, HST, ⟨HT.out.symm⟩⟩
      case round =>
        clear HST HT
        obtain ⟨k, a, b, c, rfl, hik, hk, hm, habc, HST, HT⟩ := hrel
        subst hm
        have HXK := Aside0.mk (show Below w.heap.size w wr from HST.out.bel)
        have hx0 := (HXK.out.cell (World.block_lt_of_cell? w _ HX.out)).trans HX.out
        simp only [Int.toNat_natCast] at hx0
        by_cases d3 : k < units.length
        · have g1 : decide ((k : Int) < (units.length : Int)) = true := decide_eq_true (by omega)
          have g1' : decide (k < units.length) = true := decide_eq_true d3
          have q2 : (k : Int) < (units.length : Int) := by omega
          obtain ⟨ad1, e1, hy0⟩ := Kd.at_int HR0.out (k : Int) (by omega) (by omega)
          cases e1
          replace hy0 := (HXK.out.cell (World.block_lt_of_cell? w _ hy0)).trans hy0
          simp only [Int.toNat_natCast] at hy0
          have hmem : rd units (k : Int) ∈ units := by
            simp [rd, List.getD_eq_getElem?_getD, List.getElem?_eq_getElem d3]
          have hc := HALL.out _ hmem
          have ht := HT.out
          rw [drop_rd units k d3, takeRun] at ht
          obtain ⟨y, hy⟩ : ∃ y, y = rd units (k : Int) := ⟨_, rfl⟩
          rw [← hy] at hy0 hc ht
          clear hmem HT
          have HDR := Aside0.mk (show units.drop k = y :: units.drop (k + 1) by rw [hy]; exact drop_rd units k d3)
          clear hy
          by_cases hxz : x = 0
          · have hxb : (x == 0) = true := beq_iff_eq.mpr hxz
            clear hxz
            rcases hc with rfl | hc
            · skip
              have ht2 : takeRun (x == 0) (units.drop (k + 1)) (((a + 1 : Nat) : Int)) ((b : Int)) ((c : Int)) = T := by
                rw [← ht]
                simp [hxb]
              have HT := Aside0.mk ht2
              have hc := (blk_cell HST.out.blk 0).trans rfl
              have hfz := blk_frozen HST.out.blk 0
              have wn : wrap64 ((a : Int) + 1) = (a : Int) + 1 := wrap_mid (by omega) (by have := HLEN.out; omega)
              have wk : wrap64 ((k : Int) + 1) = (k : Int) + 1 := wrap_mid (by omega) (by have := HLEN.out; omega)
              have hgk : units.length - (k + 1) < units.length - k := by omega
              have habc' : a + b + c + 1 ≤ k + 1 := by omega
              clear ht ht2
              go_wp2
              go_quiet (fail)
              go_wp2
              go_roundg (units.length - (k + 1))
              case measure => exact hgk
              case rel =>
                refine ⟨k + 1, a + 1, b, c, by first | rfl | go_num, by omega, by omega, rfl, by omega, ?_, HT⟩
                first | exact ⟨HST.out.put_a⟩ | exact ⟨(HST.out.drewN _).put_a⟩
            · have hyb : (y == 0) = false := beq_eq_false_iff_ne.mpr (by omega)
              have hT2 : (⟨y :: units.drop (k + 1), a, b, c⟩ : N3) = T := by rw [← ht]; simp [hyb, show x = 0 from beq_iff_eq.mp hxb]
              have HEND := Aside0.mk (show appsFrom 0 out (a : Int) (b : Int) (c : Int) = appsL out T from by rw [← hT2]; rfl)
              have HL0 := HL.out
              rw [← hT2] at HL0
              have HLL : Aside0 (stepsL gl (units.drop k) (appsL out T) = some r) := ⟨by rw [HDR.out, ← hT2]; exact HL0⟩
              clear HL HL0 hT2
              have HL := HLL
              clear ht hc HLL
              go_wp2
              go_quiet (fail)
              go_wp2
              go_loopg [3, 40] 3 (fun m v3 v40 wr => ∃ (j : Nat) (o : List S97), v40 = .int .i64 (j : Int) ∧ j ≤ 3 ∧ m = 3 - j ∧ Aside0 (StAt w g o a b c v3 wr) ∧ Aside0 (appsFrom j o a b c = appsL out T ∧ o.length ≤ 4398046511104 + j))
              case atStart => exact ⟨0, out, rfl, by omega, rfl, ⟨by first | exact HST.out | exact HST.out.drewN _⟩, ⟨HEND.out, by have := HO.out; omega⟩⟩
              case round =>
                clear HST HEND
                obtain ⟨j, o, rfl, hj, hm, HSU, HQ⟩ := hrel
                obtain ⟨A2, n2, e2⟩ := Kd.R_slice HSU.out.row
                subst e2
                match j, hj with
                | 0, hj =>
                  have hc0 := (blk_cell HSU.out.blk 0).trans rfl
                  have hm2 : gk = 3 := by omega
                  clear hm hj
                  by_cases e0 : 0 < a
                  · have g5 : decide (0 < (a : Int)) = true := decide_eq_true (by omega)
                    have g6 : decide (0 < a) = true := decide_eq_true e0
                    have q5 : 0 < a := e0
                    have ea : app1 o 0 (a : Int) = o ++ [⟨0, (a : Int)⟩] := if_pos (by omega)
                    have HE := Aside0.mk ea
                    have hO := HQ.out.2
                    have HOO := Aside0.mk (show (o.length + 1) * 16 ≤ 140737488355328 by omega)
                    clear ea hO
                    go_wp2_with (at_builtin; refine Kd.R_append k97 (w0 := w) w.heap.size rfl (.tmp 47) (.tmp 53) 44 97 (.agg #[.int .i64 0, .int .i64 0]) 16 rfl Try.underlying44 info97 rfl (by decide) (by decide) _ o ⟨0, (a : Int)⟩ _ (fun _ => True) (fun _ => False) rfl (by simp [Act.eval]) (k97_mkM _ _ _ _) (fun _ h => h.elim) (fun _ _ => trivial) HSU.out.row HSU.out.bel HSU.out.bel.size HOO.out ?_)
                    intro v1 w2 hR1 hB1 hg1 hat
                    obtain ⟨A3, n3, rfl⟩ := Kd.R_slice hR1
                    have HSU' := Aside0.mk (HSU.out.app hR1 hB1 hg1)
                    clear hR1 hB1 hg1 hat
                    go_wp2
                    go_roundg (2 : Nat)
                    case measure => omega
                    case rel =>
                      refine ⟨1, o ++ [⟨0, (a : Int)⟩], rfl, by first | rfl | simp, rfl, HSU', ⟨?_, by rw [List.length_append]; have := HQ.out.2; simp; omega⟩⟩
                      rw [← HQ.out.1]
                      simp only [appsFrom, HE.out]
                  · have g5 : decide (0 < (a : Int)) = false := decide_eq_false (by omega)
                    have g6 : decide (0 < a) = false := decide_eq_false e0
                    obtain rfl : a = 0 := by omega
                    have ea : app1 o 0 ((0 : Nat) : Int) = o := if_neg (by decide)
                    have HE := Aside0.mk ea
                    clear ea
                    go_wp2
                    go_roundg (2 : Nat)
                    case measure => omega
                    case rel =>
                      refine ⟨1, o, rfl, by first | rfl | simp, rfl, HSU, ⟨?_, by have := HQ.out.2; omega⟩⟩
                      rw [← HQ.out.1]
                      simp only [appsFrom, HE.out]
                | 1, hj =>
                  have hc0 := (blk_cell HSU.out.blk 1).trans rfl
                  have hm2 : gk = 2 := by omega
                  clear hm hj
                  by_cases e1 : 0 < b
                  · have g5 : decide (0 < (b : Int)) = true := decide_eq_true (by omega)
                    have g6 : decide (0 < b) = true := decide_eq_true e1
                    have q5 : 0 < b := e1
                    have ea : app1 o 1 (b : Int) = o ++ [⟨1, (b : Int)⟩] := if_pos (by omega)
                    have HE := Aside0.mk ea
                    have hO := HQ.out.2
                    have HOO := Aside0.mk (show (o.length + 1) * 16 ≤ 140737488355328 by omega)
                    clear ea hO
                    go_wp2_with (at_builtin; refine Kd.R_append k97 (w0 := w) w.heap.size rfl (.tmp 47) (.tmp 53) 44 97 (.agg #[.int .i64 0, .int .i64 0]) 16 rfl Try.underlying44 info97 rfl (by decide) (by decide) _ o ⟨1, (b : Int)⟩ _ (fun _ => True) (fun _ => False) rfl (by simp [Act.eval]) (k97_mkM _ _ _ _) (fun _ h => h.elim) (fun _ _ => trivial) HSU.out.row HSU.out.bel HSU.out.bel.size HOO.out ?_)
                    intro v1 w2 hR1 hB1 hg1 hat
                    obtain ⟨A3, n3, rfl⟩ := Kd.R_slice hR1
                    have HSU' := Aside0.mk (HSU.out.app hR1 hB1 hg1)
                    clear hR1 hB1 hg1 hat
                    go_wp2
                    go_roundg (1 : Nat)
                    case measure => omega
                    case rel =>
                      refine ⟨2, o ++ [⟨1, (b : Int)⟩], rfl, by first | rfl | simp, rfl, HSU', ⟨?_, by rw [List.length_append]; have := HQ.out.2; simp; omega⟩⟩
                      rw [← HQ.out.1]
                      simp only [appsFrom, HE.out]
                  · have g5 : decide (0 < (b : Int)) = false := decide_eq_false (by omega)
                    have g6 : decide (0 < b) = false := decide_eq_false e1
                    obtain rfl : b = 0 := by omega
                    have ea : app1 o 1 ((0 : Nat) : Int) = o := if_neg (by decide)
                    have HE := Aside0.mk ea
                    clear ea
                    go_wp2
                    go_roundg (1 : Nat)
                    case measure => omega
                    case rel =>
                      refine ⟨2, o, rfl, by first | rfl | simp, rfl, HSU, ⟨?_, by have := HQ.out.2; omega⟩⟩
                      rw [← HQ.out.1]
                      simp only [appsFrom, HE.out]
                | 2, hj =>
                  have hc0 := (blk_cell HSU.out.blk 2).trans rfl
                  have hm2 : gk = 1 := by omega
                  clear hm hj
                  by_cases e2 : 0 < c
                  · have g5 : decide (0 < (c : Int)) = true := decide_eq_true (by omega)
                    have g6 : decide (0 < c) = true := decide_eq_true e2
                    have q5 : 0 < c := e2
                    have ea : app1 o 2 (c : Int) = o ++ [⟨2, (c : Int)⟩] := if_pos (by omega)
                    have HE := Aside0.mk ea
                    have hO := HQ.out.2
                    have HOO := Aside0.mk (show (o.length + 1) * 16 ≤ 140737488355328 by omega)
                    clear ea hO
                    go_wp2_with (at_builtin; refine Kd.R_append k97 (w0 := w) w.heap.size rfl (.tmp 47) (.tmp 53) 44 97 (.agg #[.int .i64 0, .int .i64 0]) 16 rfl Try.underlying44 info97 rfl (by decide) (by decide) _ o ⟨2, (c : Int)⟩ _ (fun _ => True) (fun _ => False) rfl (by simp [Act.eval]) (k97_mkM _ _ _ _) (fun _ h => h.elim) (fun _ _ => trivial) HSU.out.row HSU.out.bel HSU.out.bel.size HOO.out ?_)
                    intro v1 w2 hR1 hB1 hg1 hat
                    obtain ⟨A3, n3, rfl⟩ := Kd.R_slice hR1
                    have HSU' := Aside0.mk (HSU.out.app hR1 hB1 hg1)
                    clear hR1 hB1 hg1 hat
                    go_wp2
                    go_roundg (0 : Nat)
                    case measure => omega
                    case rel =>
                      refine ⟨3, o ++ [⟨2, (c : Int)⟩], rfl, by first | rfl | simp, rfl, HSU', ⟨?_, by rw [List.length_append]; have := HQ.out.2; simp; omega⟩⟩
                      rw [← HQ.out.1]
                      simp only [appsFrom, HE.out]
                  · have g5 : decide (0 < (c : Int)) = false := decide_eq_false (by omega)
                    have g6 : decide (0 < c) = false := decide_eq_false e2
                    obtain rfl : c = 0 := by omega
                    have ea : app1 o 2 ((0 : Nat) : Int) = o := if_neg (by decide)
                    have HE := Aside0.mk ea
                    clear ea
                    go_wp2
                    go_roundg (0 : Nat)
                    case measure => omega
                    case rel =>
                      refine ⟨3, o, rfl, by first | rfl | simp, rfl, HSU, ⟨?_, by have := HQ.out.2; omega⟩⟩
                      rw [← HQ.out.1]
                      simp only [appsFrom, HE.out]
                | 3, hj =>
                  have hL3 := HL.out
                  rw [← HQ.out.1] at hL3
                  have HL3 := Aside0.mk hL3
                  have HR3 := Aside0.mk HSU.out.row
                  have HB3 := Aside0.mk HSU.out.bel
                  clear hL3 HL HSU
                  go_wp2
                  go_roundg gl
                  case measure => exact Nat.lt_succ_self _
                  case rel => exact ⟨k, o, rfl, hk, HR3, HB3, HL3⟩
          · have hxb : (x == 0) = false := beq_eq_false_iff_ne.mpr hxz
            clear hxz
            rcases hc with rfl | rfl | rfl
            · have hT2 : (⟨0 :: units.drop (k + 1), a, b, c⟩ : N3) = T := by rw [← ht]; simp [hxb]
              have HEND := Aside0.mk (show appsFrom 0 out (a : Int) (b : Int) (c : Int) = appsL out T from by rw [← hT2]; rfl)
              have HL0 := HL.out
              rw [← hT2] at HL0
              have HLL : Aside0 (stepsL gl (units.drop k) (appsL out T) = some r) := ⟨by rw [HDR.out, ← hT2]; exact HL0⟩
              clear HL HL0 hT2
              have HL := HLL
              clear ht HLL
              go_wp2
              go_quiet (fail)
              go_wp2
              go_loopg [3, 40] 3 (fun m v3 v40 wr => ∃ (j : Nat) (o : List S97), v40 = .int .i64 (j : Int) ∧ j ≤ 3 ∧ m = 3 - j ∧ Aside0 (StAt w g o a b c v3 wr) ∧ Aside0 (appsFrom j o a b c = appsL out T ∧ o.length ≤ 4398046511104 + j))
              case atStart => exact ⟨0, out, rfl, by omega, rfl, ⟨by first | exact HST.out | exact HST.out.drewN _⟩, ⟨HEND.out, by have := HO.out; omega⟩⟩
              case round =>
                clear HST HEND
                obtain ⟨j, o, rfl, hj, hm, HSU, HQ⟩ := hrel
                obtain ⟨A2, n2, e2⟩ := Kd.R_slice HSU.out.row
                subst e2
                match j, hj with
                | 0, hj =>
                  have hc0 := (blk_cell HSU.out.blk 0).trans rfl
                  have hm2 : gk = 3 := by omega
                  clear hm hj
                  by_cases e0 : 0 < a
                  · have g5 : decide (0 < (a : Int)) = true := decide_eq_true (by omega)
                    have g6 : decide (0 < a) = true := decide_eq_true e0
                    have q5 : 0 < a := e0
                    have ea : app1 o 0 (a : Int) = o ++ [⟨0, (a : Int)⟩] := if_pos (by omega)
                    have HE := Aside0.mk ea
                    have hO := HQ.out.2
                    have HOO := Aside0.mk (show (o.length + 1) * 16 ≤ 140737488355328 by omega)
                    clear ea hO
                    go_wp2_with (at_builtin; refine Kd.R_append k97 (w0 := w) w.heap.size rfl (.tmp 47) (.tmp 53) 44 97 (.agg #[.int .i64 0, .int .i64 0]) 16 rfl Try.underlying44 info97 rfl (by decide) (by decide) _ o ⟨0, (a : Int)⟩ _ (fun _ => True) (fun _ => False) rfl (by simp [Act.eval]) (k97_mkM _ _ _ _) (fun _ h => h.elim) (fun _ _ => trivial) HSU.out.row HSU.out.bel HSU.out.bel.size HOO.out ?_)
                    intro v1 w2 hR1 hB1 hg1 hat
                    obtain ⟨A3, n3, rfl⟩ := Kd.R_slice hR1
                    have HSU' := Aside0.mk (HSU.out.app hR1 hB1 hg1)
                    clear hR1 hB1 hg1 hat
                    go_wp2
                    go_roundg (2 : Nat)
                    case measure => omega
                    case rel =>
                      refine ⟨1, o ++ [⟨0, (a : Int)⟩], rfl, by first | rfl | simp, rfl, HSU', ⟨?_, by rw [List.length_append]; have := HQ.out.2; simp; omega⟩⟩
                      rw [← HQ.out.1]
                      simp only [appsFrom, HE.out]
                  · have g5 : decide (0 < (a : Int)) = false := decide_eq_false (by omega)
                    have g6 : decide (0 < a) = false := decide_eq_false e0
                    obtain rfl : a = 0 := by omega
                    have ea : app1 o 0 ((0 : Nat) : Int) = o := if_neg (by decide)
                    have HE := Aside0.mk ea
                    clear ea
                    go_wp2
                    go_roundg (2 : Nat)
                    case measure => omega
                    case rel =>
                      refine ⟨1, o, rfl, by first | rfl | simp, rfl, HSU, ⟨?_, by have := HQ.out.2; omega⟩⟩
                      rw [← HQ.out.1]
                      simp only [appsFrom, HE.out]
                | 1, hj =>
                  have hc0 := (blk_cell HSU.out.blk 1).trans rfl
                  have hm2 : gk = 2 := by omega
                  clear hm hj
                  by_cases e1 : 0 < b
                  · have g5 : decide (0 < (b : Int)) = true := decide_eq_true (by omega)
                    have g6 : decide (0 < b) = true := decide_eq_true e1
                    have q5 : 0 < b := e1
                    have ea : app1 o 1 (b : Int) = o ++ [⟨1, (b : Int)⟩] := if_pos (by omega)
                    have HE := Aside0.mk ea
                    have hO := HQ.out.2
                    have HOO := Aside0.mk (show (o.length + 1) * 16 ≤ 140737488355328 by omega)
                    clear ea hO
                    go_wp2_with (at_builtin; refine Kd.R_append k97 (w0 := w) w.heap.size rfl (.tmp 47) (.tmp 53) 44 97 (.agg #[.int .i64 0, .int .i64 0]) 16 rfl Try.underlying44 info97 rfl (by decide) (by decide) _ o ⟨1, (b : Int)⟩ _ (fun _ => True) (fun _ => False) rfl (by simp [Act.eval]) (k97_mkM _ _ _ _) (fun _ h => h.elim) (fun _ _ => trivial) HSU.out.row HSU.out.bel HSU.out.bel.size HOO.out ?_)
                    intro v1 w2 hR1 hB1 hg1 hat
                    obtain ⟨A3, n3, rfl⟩ := Kd.R_slice hR1
                    have HSU' := Aside0.mk (HSU.out.app hR1 hB1 hg1)
                    clear hR1 hB1 hg1 hat
                    go_wp2
                    go_roundg (1 : Nat)
                    case measure => omega
                    case rel =>
                      refine ⟨2, o ++ [⟨1, (b : Int)⟩], rfl, by first | rfl | simp, rfl, HSU', ⟨?_, by rw [List.length_append]; have := HQ.out.2; simp; omega⟩⟩
                      rw [← HQ.out.1]
                      simp only [appsFrom, HE.out]
                  · have g5 : decide (0 < (b : Int)) = false := decide_eq_false (by omega)
                    have g6 : decide (0 < b) = false := decide_eq_false e1
                    obtain rfl : b = 0 := by omega
                    have ea : app1 o 1 ((0 : Nat) : Int) = o := if_neg (by decide)
                    have HE := Aside0.mk ea
                    clear ea
                    go_wp2
                    go_roundg (1 : Nat)
                    case measure => omega
                    case rel =>
                      refine ⟨2, o, rfl, by first | rfl | simp, rfl, HSU, ⟨?_, by have := HQ.out.2; omega⟩⟩
                      rw [← HQ.out.1]
                      simp only [appsFrom, HE.out]
                | 2, hj =>
                  have hc0 := (blk_cell HSU.out.blk 2).trans rfl
                  have hm2 : gk = 1 := by omega
                  clear hm hj
                  by_cases e2 : 0 < c
                  · have g5 : decide (0 < (c : Int)) = true := decide_eq_true (by omega)
                    have g6 : decide (0 < c) = true := decide_eq_true e2
                    have q5 : 0 < c := e2
                    have ea : app1 o 2 (c : Int) = o ++ [⟨2, (c : Int)⟩] := if_pos (by omega)
                    have HE := Aside0.mk ea
                    have hO := HQ.out.2
                    have HOO := Aside0.mk (show (o.length + 1) * 16 ≤ 140737488355328 by omega)
                    clear ea hO
                    go_wp2_with (at_builtin; refine Kd.R_append k97 (w0 := w) w.heap.size rfl (.tmp 47) (.tmp 53) 44 97 (.agg #[.int .i64 0, .int .i64 0]) 16 rfl Try.underlying44 info97 rfl (by decide) (by decide) _ o ⟨2, (c : Int)⟩ _ (fun _ => True) (fun _ => False) rfl (by simp [Act.eval]) (k97_mkM _ _ _ _) (fun _ h => h.elim) (fun _ _ => trivial) HSU.out.row HSU.out.bel HSU.out.bel.size HOO.out ?_)
                    intro v1 w2 hR1 hB1 hg1 hat
                    obtain ⟨A3, n3, rfl⟩ := Kd.R_slice hR1
                    have HSU' := Aside0.mk (HSU.out.app hR1 hB1 hg1)
                    clear hR1 hB1 hg1 hat
                    go_wp2
                    go_roundg (0 : Nat)
                    case measure => omega
                    case rel =>
                      refine ⟨3, o ++ [⟨2, (c : Int)⟩], rfl, by first | rfl | simp, rfl, HSU', ⟨?_, by rw [List.length_append]; have := HQ.out.2; simp; omega⟩⟩
                      rw [← HQ.out.1]
                      simp only [appsFrom, HE.out]
                  · have g5 : decide (0 < (c : Int)) = false := decide_eq_false (by omega)
                    have g6 : decide (0 < c) = false := decide_eq_false e2
                    obtain rfl : c = 0 := by omega
                    have ea : app1 o 2 ((0 : Nat) : Int) = o := if_neg (by decide)
                    have HE := Aside0.mk ea
                    clear ea
                    go_wp2
                    go_roundg (0 : Nat)
                    case measure => omega
                    case rel =>
                      refine ⟨3, o, rfl, by first | rfl | simp, rfl, HSU, ⟨?_, by have := HQ.out.2; omega⟩⟩
                      rw [← HQ.out.1]
                      simp only [appsFrom, HE.out]
                | 3, hj =>
                  have hL3 := HL.out
                  rw [← HQ.out.1] at hL3
                  have HL3 := Aside0.mk hL3
                  have HR3 := Aside0.mk HSU.out.row
                  have HB3 := Aside0.mk HSU.out.bel
                  clear hL3 HL HSU
                  go_wp2
                  go_roundg gl
                  case measure => exact Nat.lt_succ_self _
                  case rel => exact ⟨k, o, rfl, hk, HR3, HB3, HL3⟩
            · skip
              have ht2 : takeRun (x == 0) (units.drop (k + 1)) ((a : Int)) (((b + 1 : Nat) : Int)) ((c : Int)) = T := by
                rw [← ht]
                simp [hxb]
              have HT := Aside0.mk ht2
              have hc := (blk_cell HST.out.blk 1).trans rfl
              have hfz := blk_frozen HST.out.blk 1
              have wn : wrap64 ((b : Int) + 1) = (b : Int) + 1 := wrap_mid (by omega) (by have := HLEN.out; omega)
              have wk : wrap64 ((k : Int) + 1) = (k : Int) + 1 := wrap_mid (by omega) (by have := HLEN.out; omega)
              have hgk : units.length - (k + 1) < units.length - k := by omega
              have habc' : a + b + c + 1 ≤ k + 1 := by omega
              clear ht ht2
              go_wp2
              go_quiet (fail)
              go_wp2
              go_roundg (units.length - (k + 1))
              case measure => exact hgk
              case rel =>
                refine ⟨k + 1, a, b + 1, c, by first | rfl | go_num, by omega, by omega, rfl, by omega, ?_, HT⟩
                first | exact ⟨HST.out.put_b⟩ | exact ⟨(HST.out.drewN _).put_b⟩
            · skip
              have ht2 : takeRun (x == 0) (units.drop (k + 1)) ((a : Int)) ((b : Int)) (((c + 1 : Nat) : Int)) = T := by
                rw [← ht]
                simp [hxb]
              have HT := Aside0.mk ht2
              have hc := (blk_cell HST.out.blk 2).trans rfl
              have hfz := blk_frozen HST.out.blk 2
              have wn : wrap64 ((c : Int) + 1) = (c : Int) + 1 := wrap_mid (by omega) (by have := HLEN.out; omega)
              have wk : wrap64 ((k : Int) + 1) = (k : Int) + 1 := wrap_mid (by omega) (by have := HLEN.out; omega)
              have hgk : units.length - (k + 1) < units.length - k := by omega
              have habc' : a + b + c + 1 ≤ k + 1 := by omega
              clear ht ht2
              go_wp2
              go_quiet (fail)
              go_wp2
              go_roundg (units.length - (k + 1))
              case measure => exact hgk
              case rel =>
                refine ⟨k + 1, a, b, c + 1, by first | rfl | go_num, by omega, by omega, rfl, by omega, ?_, HT⟩
                first | exact ⟨HST.out.put_c⟩ | exact ⟨(HST.out.drewN _).put_c⟩
        · obtain rfl : k = units.length := by omega
          have ht := HT.out
          rw [List.drop_length, takeRun] at ht
          have hT2 := ht
          have HEND := Aside0.mk (show appsFrom 0 out (a : Int) (b : Int) (c : Int) = appsL out T from by rw [← hT2]; rfl)
          have HL0 := HL.out
          rw [← hT2] at HL0
          have HLL : Aside0 (stepsL gl (units.drop units.length) (appsL out T) = some r) := ⟨by rw [List.drop_length, ← hT2]; exact HL0⟩
          clear HL HL0 hT2
          have HL := HLL
          have f3 : decide ((units.length : Int) < (units.length : Int)) = false := decide_eq_false (by omega)
          have f3' : decide (units.length < units.length) = false := decide_eq_false (by omega)
          clear ht HT HLL d3
          go_wp2
          go_quiet (fail)
          go_wp2
          go_loopg [3, 40] 3 (fun m v3 v40 wr => ∃ (j : Nat) (o : List S97), v40 = .int .i64 (j : Int) ∧ j ≤ 3 ∧ m = 3 - j ∧ Aside0 (StAt w g o a b c v3 wr) ∧ Aside0 (appsFrom j o a b c = appsL out T ∧ o.length ≤ 4398046511104 + j))
          case atStart => exact ⟨0, out, rfl, by omega, rfl, ⟨by first | exact HST.out | exact HST.out.drewN _⟩, ⟨HEND.out, by have := HO.out; omega⟩⟩
          case round =>
            clear HST HEND
            obtain ⟨j, o, rfl, hj, hm, HSU, HQ⟩ := hrel
            obtain ⟨A2, n2, e2⟩ := Kd.R_slice HSU.out.row
            subst e2
            match j, hj with
            | 0, hj =>
              have hc0 := (blk_cell HSU.out.blk 0).trans rfl
              have hm2 : gk = 3 := by omega
              clear hm hj
              by_cases e0 : 0 < a
              · have g5 : decide (0 < (a : Int)) = true := decide_eq_true (by omega)
                have g6 : decide (0 < a) = true := decide_eq_true e0
                have q5 : 0 < a := e0
                have ea : app1 o 0 (a : Int) = o ++ [⟨0, (a : Int)⟩] := if_pos (by omega)
                have HE := Aside0.mk ea
                have hO := HQ.out.2
                have HOO := Aside0.mk (show (o.length + 1) * 16 ≤ 140737488355328 by omega)
                clear ea hO
                go_wp2_with (at_builtin; refine Kd.R_append k97 (w0 := w) w.heap.size rfl (.tmp 47) (.tmp 53) 44 97 (.agg #[.int .i64 0, .int .i64 0]) 16 rfl Try.underlying44 info97 rfl (by decide) (by decide) _ o ⟨0, (a : Int)⟩ _ (fun _ => True) (fun _ => False) rfl (by simp [Act.eval]) (k97_mkM _ _ _ _) (fun _ h => h.elim) (fun _ _ => trivial) HSU.out.row HSU.out.bel HSU.out.bel.size HOO.out ?_)
                intro v1 w2 hR1 hB1 hg1 hat
                obtain ⟨A3, n3, rfl⟩ := Kd.R_slice hR1
                have HSU' := Aside0.mk (HSU.out.app hR1 hB1 hg1)
                clear hR1 hB1 hg1 hat
                go_wp2
                go_roundg (2 : Nat)
                case measure => omega
                case rel =>
                  refine ⟨1, o ++ [⟨0, (a : Int)⟩], rfl, by first | rfl | simp, rfl, HSU', ⟨?_, by rw [List.length_append]; have := HQ.out.2; simp; omega⟩⟩
                  rw [← HQ.out.1]
                  simp only [appsFrom, HE.out]
              · have g5 : decide (0 < (a : Int)) = false := decide_eq_false (by omega)
                have g6 : decide (0 < a) = false := decide_eq_false e0
                obtain rfl : a = 0 := by omega
                have ea : app1 o 0 ((0 : Nat) : Int) = o := if_neg (by decide)
                have HE := Aside0.mk ea
                clear ea
                go_wp2
                go_roundg (2 : Nat)
                case measure => omega
                case rel =>
                  refine ⟨1, o, rfl, by first | rfl | simp, rfl, HSU, ⟨?_, by have := HQ.out.2; omega⟩⟩
                  rw [← HQ.out.1]
                  simp only [appsFrom, HE.out]
            | 1, hj =>
              have hc0 := (blk_cell HSU.out.blk 1).trans rfl
              have hm2 : gk = 2 := by omega
              clear hm hj
              by_cases e1 : 0 < b
              · have g5 : decide (0 < (b : Int)) = true := decide_eq_true (by omega)
                have g6 : decide (0 < b) = true := decide_eq_true e1
                have q5 : 0 < b := e1
                have ea : app1 o 1 (b : Int) = o ++ [⟨1, (b : Int)⟩] := if_pos (by omega)
                have HE := Aside0.mk ea
                have hO := HQ.out.2
                have HOO := Aside0.mk (show (o.length + 1) * 16 ≤ 140737488355328 by omega)
                clear ea hO
                go_wp2_with (at_builtin; refine Kd.R_append k97 (w0 := w) w.heap.size rfl (.tmp 47) (.tmp 53) 44 97 (.agg #[.int .i64 0, .int .i64 0]) 16 rfl Try.underlying44 info97 rfl (by decide) (by decide) _ o ⟨1, (b : Int)⟩ _ (fun _ => True) (fun _ => False) rfl (by simp [Act.eval]) (k97_mkM _ _ _ _) (fun _ h => h.elim) (fun _ _ => trivial) HSU.out.row HSU.out.bel HSU.out.bel.size HOO.out ?_)
                intro v1 w2 hR1 hB1 hg1 hat
                obtain ⟨A3, n3, rfl⟩ := Kd.R_slice hR1
                have HSU' := Aside0.mk (HSU.out.app hR1 hB1 hg1)
                clear hR1 hB1 hg1 hat
                go_wp2
                go_roundg (1 : Nat)
                case measure => omega
                case rel =>
                  refine ⟨2, o ++ [⟨1, (b : Int)⟩], rfl, by first | rfl | simp, rfl, HSU', ⟨?_, by rw [List.length_append]; have := HQ.out.2; simp; omega⟩⟩
                  rw [← HQ.out.1]
                  simp only [appsFrom, HE.out]
              · have g5 : decide (0 < (b : Int)) = false := decide_eq_false (by omega)
                have g6 : decide (0 < b) = false := decide_eq_false e1
                obtain rfl : b = 0 := by omega
                have ea : app1 o 1 ((0 : Nat) : Int) = o := if_neg (by decide)
                have HE := Aside0.mk ea
                clear ea
                go_wp2
                go_roundg (1 : Nat)
                case measure => omega
                case rel =>
                  refine ⟨2, o, rfl, by first | rfl | simp, rfl, HSU, ⟨?_, by have := HQ.out.2; omega⟩⟩
                  rw [← HQ.out.1]
                  simp only [appsFrom, HE.out]
            | 2, hj =>
              have hc0 := (blk_cell HSU.out.blk 2).trans rfl
              have hm2 : gk = 1 := by omega
              clear hm hj
              by_cases e2 : 0 < c
              · have g5 : decide (0 < (c : Int)) = true := decide_eq_true (by omega)
                have g6 : decide (0 < c) = true := decide_eq_true e2
                have q5 : 0 < c := e2
                have ea : app1 o 2 (c : Int) = o ++ [⟨2, (c : Int)⟩] := if_pos (by omega)
                have HE := Aside0.mk ea
                have hO := HQ.out.2
                have HOO := Aside0.mk (show (o.length + 1) * 16 ≤ 140737488355328 by omega)
                clear ea hO
                go_wp2_with (at_builtin; refine Kd.R_append k97 (w0 := w) w.heap.size rfl (.tmp 47) (.tmp 53) 44 97 (.agg #[.int .i64 0, .int .i64 0]) 16 rfl Try.underlying44 info97 rfl (by decide) (by decide) _ o ⟨2, (c : Int)⟩ _ (fun _ => True) (fun _ => False) rfl (by simp [Act.eval]) (k97_mkM _ _ _ _) (fun _ h => h.elim) (fun _ _ => trivial) HSU.out.row HSU.out.bel HSU.out.bel.size HOO.out ?_)
                intro v1 w2 hR1 hB1 hg1 hat
                obtain ⟨A3, n3, rfl⟩ := Kd.R_slice hR1
                have HSU' := Aside0.mk (HSU.out.app hR1 hB1 hg1)
                clear hR1 hB1 hg1 hat
                go_wp2
                go_roundg (0 : Nat)
                case measure => omega
                case rel =>
                  refine ⟨3, o ++ [⟨2, (c : Int)⟩], rfl, by first | rfl | simp, rfl, HSU', ⟨?_, by rw [List.length_append]; have := HQ.out.2; simp; omega⟩⟩
                  rw [← HQ.out.1]
                  simp only [appsFrom, HE.out]
              · have g5 : decide (0 < (c : Int)) = false := decide_eq_false (by omega)
                have g6 : decide (0 < c) = false := decide_eq_false e2
                obtain rfl : c = 0 := by omega
                have ea : app1 o 2 ((0 : Nat) : Int) = o := if_neg (by decide)
                have HE := Aside0.mk ea
                clear ea
                go_wp2
                go_roundg (0 : Nat)
                case measure => omega
                case rel =>
                  refine ⟨3, o, rfl, by first | rfl | simp, rfl, HSU, ⟨?_, by have := HQ.out.2; omega⟩⟩
                  rw [← HQ.out.1]
                  simp only [appsFrom, HE.out]
            | 3, hj =>
              have hL3 := HL.out
              rw [← HQ.out.1] at hL3
              have HL3 := Aside0.mk hL3
              have HR3 := Aside0.mk HSU.out.row
              have HB3 := Aside0.mk HSU.out.bel
              clear hL3 HL HSU
              go_wp2
              go_roundg gl
              case measure => exact Nat.lt_succ_self _
              case rel => exact ⟨units.length, o, rfl, hk, HR3, HB3, HL3⟩
    · have e : i = units.length := by omega
      subst e
      rw [if_pos (by simp)] at hL
      injection hL with hL
      subst hL
      have f1 : decide ((units.length : Int) < (units.length : Int)) = false := decide_eq_false (by omega)
      have f1' : decide (units.length < units.length) = false := decide_eq_false (by omega)
      clear d2
      go_wp2
      first | go_ret | go_ret2
      exact ⟨_, rfl, HR.out, HB.out⟩
end Go.Proofs.Ytdgemabmmomebaa.PAxis

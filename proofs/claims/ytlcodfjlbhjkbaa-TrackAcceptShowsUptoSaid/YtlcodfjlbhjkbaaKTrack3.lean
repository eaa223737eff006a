/- Parts of the proof of Track: nothing is claimed here by itself. -/
import Derived.Test.YtlcodfjlbhjkbaaKTrack2
set_option linter.unusedVariables false
set_option linter.unusedSimpArgs false
section
namespace Go.Proofs.Ytlcodfjlbhjkbaa.PDelta
open Go.RowKit Go.Proofs.YtlcodfjlbhjkbaaW.PrintWords Go.Proofs.YtlcodfjlbhjkbaaW.PrintLast Go.Proofs.YtlcodfjlbhjkbaaW.PrintMore
attribute [local go_sem] max2_int min2_int max_two min_two max_three min_three max_four min_four
attribute [local go_sem high] Go.Proofs.Ytlcodfjlbhjkbaa.Ord.leq_str Go.Proofs.Ytlcodfjlbhjkbaa.Ord.gtr_str Go.Proofs.Ytlcodfjlbhjkbaa.Ord.geq_str
attribute [local go_sem high] eqA91
def delta_Raw.l0:Nat → List (S26) → List (S26) → List (S95) → Int → Int → Option ((List (S26)))
 | 0,_,_,_,_,_=>none
 | k + 1,x0,x5,x8,x9,x10=>if x10 < x9 then (if 0 ≤ x10 then (if x10 < (x8.length:Int) then (if ((rd_T95 x8 x10).f0) = 0 then (if 0 ≤ ((rd_T95 x8 x10).f1) then (if ((rd_T95 x8 x10).f1) ≤ (x0.length:Int) then ((delta_changed.f k (x0.take (((rd_T95 x8 x10).f1):Int).toNat) ((rd_T95 x8 x10).f2)).bind fun t198=>(if x5.length + t198.length < 3518437208883 then (delta_Raw.l0 k (x0.drop (((rd_T95 x8 x10).f1):Int).toNat) (x5 ++ t198) x8 x9 (wrap64 (x10 + 1))) else (none))) else (none)) else (none)) else (if ((rd_T95 x8 x10).f0) = 1 then ((flow_Copy.f k ((rd_T95 x8 x10).f3)).bind fun t209=>(if x5.length + t209.length < 3518437208883 then (delta_Raw.l0 k x0 (x5 ++ t209) x8 x9 (wrap64 (x10 + 1))) else (none))) else (if 0 ≤ ((rd_T95 x8 x10).f1) then (if ((rd_T95 x8 x10).f1) ≤ (x0.length:Int) then (delta_Raw.l0 k (x0.drop (((rd_T95 x8 x10).f1):Int).toNat) x5 x8 x9 (wrap64 (x10 + 1))) else (none)) else (none)))) else (none)) else (none)) else (some x5)
def delta_Raw.f (k:Nat) (l0:List (S26)) (l1:List (S95)):Option ((List (S26))):=delta_Raw.l0 k l0 ([]:List (S26)) l1 (l1.length:Int) 0
def delta_Raw.T8:Bool × List (List Nat × List Nat):=(true,[([],[]),([],[]),([],[]),([2],[2]),([1,3],[1,3]),([],[]),([5],[5]),([4,6],[4,6]),([0,7,7],[0,7]),([8,8,0,1,2,3,4,5,6,7,8],[0,8])])
def delta_Raw.B8:List Nat:=[0,0,0,4,14,0,32,126,255,511]
theorem delta_Raw.tab8:rtab .any (opsOf Try.f56 8) = delta_Raw.T8:=by kernel_rfl
theorem delta_Raw.bits8:waitsOk delta_Raw.T8.2 delta_Raw.B8 = true:=by kernel_rfl
set_option maxHeartbeats 8000000 in
set_option maxRecDepth 100000 in
theorem delta_Raw.calls (k:Nat) (P0_:Nat → Prop) (A0:Option Addr) (c0:Nat) (l0:List (S26)) (A1:Option Addr) (c1:Nat) (l1:List (S95)) (r:List (S26)) (w:World) (hs0:Kd.V k26 26 w w.heap.size (fun k_=>P0_ k_) (.slice A0 l0.length c0) l0) (hr1:Kd.C k95 w A1 l1.length l1) (hc1:l1.length ≤ c1) (h:delta_Raw.f k l0 l1 = some r) :
 Calls Try.prog 56 #[.slice A0 l0.length c0,.slice A1 l1.length c1] w fun e w'=>∃ v0_:Value,e = .returned (v0_) ∧ Kd.N k26 26 w' w.heap.size (fun k_=>(P0_ k_ ∨ w.heap.size ≤ k_)) v0_ r ∧ Below w.heap.size w w':=by
 have hu95:=Try.underlying95
 have HO0:=Aside0.mk (show Kd.V k26 26 w w.heap.size (fun k_=>(P0_ k_ ∨ w.heap.size ≤ k_)) (.slice A0 l0.length c0) l0 from Kd.V_mono hs0 (fun k_ hk=>.inl hk))
 have HR1:=Aside0.mk hr1
 have HC1:=Aside0.mk hc1
 clear hr1 hc1
 have HB:=Aside0.mk (Below.refl w.heap.size w)
 have H:(delta_Raw.l0 k l0 ([]:List (S26)) l1 (l1.length:Int) 0) = some r:=h
 clear h
 have H':=Aside0.mk H
 clear H
 go_enter Try.func56,Try.ntmps56
 go_wp2
 go_loopg [0,5,10] k (fun kq v0 v5 v10 w'=>∃ (x0_1:List (S26)) (x5_1:List (S26)) (x10_1:Int),v10 = .int .i64 x10_1 ∧ Aside0 (delta_Raw.l0 kq x0_1 x5_1 l1 (l1.length:Int) x10_1 = some r) ∧ Aside0 (kq ≤ k) ∧ Aside0 (Kd.V k26 26 w' w.heap.size (fun k_=>(P0_ k_ ∨ w.heap.size ≤ k_) ∧ some k_ ≠ (v5:Value).ownBlock) v0 x0_1) ∧ Aside0 (Kd.N k26 26 w' w.heap.size (fun k_=>(P0_ k_ ∨ w.heap.size ≤ k_)) v5 x5_1) ∧ Aside0 (Below w.heap.size w w'))
 case atStart=>exact ⟨(l0),(([]:List (S26))),(0),(by rfl),H',⟨Nat.le_refl _⟩,⟨by exact Kd.V_mono HO0.out (fun _ hk=>⟨hk,(by simp [Value.ownBlock])⟩)⟩,⟨by exact Kd.N_nil _ _ _ _ _⟩,⟨HB.out⟩⟩
 case round =>
  clear H'
  obtain ⟨x0_1,x5_1,x10_1,rfl,HA,HK1,HO_0,HO_5,HB⟩:=hrel
  cases gk with
  | zero=>exact absurd HA.out (by simp [delta_Raw.l0])
  | succ k1 =>
   have H:=HA.out
   clear HA
   simp only [delta_Raw.l0] at H
   by_cases c3:x10_1 < (l1.length:Int)
   ·rw [if_pos c3] at H
    have c3b0:decide (x10_1 < (l1.length:Int)) = true:=decide_eq_true c3
    clear c3
    by_cases c4:0 ≤ x10_1
    ·rw [if_pos c4] at H
     have c4b0:decide (0 ≤ x10_1) = true:=decide_eq_true c4
     clear c4
     by_cases c5:x10_1 < (l1.length:Int)
     ·rw [if_pos c5] at H
      have c5b0:decide (x10_1 < (l1.length:Int)) = true:=decide_eq_true c5
      clear c5
      by_cases c6:((rd_T95 l1 x10_1).f0) = 0
      ·rw [if_pos c6] at H
       have c6b0:(((rd_T95 l1 x10_1).f0) == 0) = true:=beq_iff_eq.mpr c6
       have c6b1:(((rd_T95 l1 x10_1).f0) != 0) = false:=bne_eq_false_iff_eq.mpr c6
       clear c6
       by_cases c7:0 ≤ ((rd_T95 l1 x10_1).f1)
       ·rw [if_pos c7] at H
        have c7b0:=eq_true c7
        have c7b1:decide (0 ≤ ((rd_T95 l1 x10_1).f1)) = true:=decide_eq_true c7
        clear c7
        by_cases c8:((rd_T95 l1 x10_1).f1) ≤ (x0_1.length:Int)
        ·rw [if_pos c8] at H
         have c8b0:=eq_true c8
         have c8b1:decide (((rd_T95 l1 x10_1).f1) ≤ (x0_1.length:Int)) = true:=decide_eq_true c8
         clear c8
         obtain ⟨y193,hy193⟩:∃ y_:List (S26),y_ = (x0_1.take (((rd_T95 l1 x10_1).f1):Int).toNat):=⟨_,rfl⟩
         replace H:((delta_changed.f k1 y193 ((rd_T95 l1 x10_1).f2)).bind fun t198=>(if x5_1.length + t198.length < 3518437208883 then (delta_Raw.l0 k1 (x0_1.drop (((rd_T95 l1 x10_1).f1):Int).toNat) (x5_1 ++ t198) l1 (l1.length:Int) (wrap64 (x10_1 + 1))) else (none))) = some r:=by (rw [hy193];with_reducible exact H)
         have Ny193:=Aside0.mk hy193
         clear hy193
         replace H:=Option.bind_eq_some_iff.mp H
         obtain ⟨t198,A90,H⟩:=H
         replace H:(if x5_1.length + t198.length < 3518437208883 then (delta_Raw.l0 k1 (x0_1.drop (((rd_T95 l1 x10_1).f1):Int).toNat) (x5_1 ++ t198) l1 (l1.length:Int) (wrap64 (x10_1 + 1))) else (none)) = some r:=H
         have A9:=Aside0.mk A90
         clear A90
         by_cases c10:x5_1.length + t198.length < 3518437208883
         ·rw [if_pos c10] at H
          have LMc10:=Aside0.mk c10
          clear c10
          obtain ⟨y201,hy201⟩:∃ y_:List (S26),y_ = (x5_1 ++ t198):=⟨_,rfl⟩
          replace H:(delta_Raw.l0 k1 (x0_1.drop (((rd_T95 l1 x10_1).f1):Int).toNat) y201 l1 (l1.length:Int) (wrap64 (x10_1 + 1))) = some r:=by (rw [hy201];with_reducible exact H)
          have Ny201:=Aside0.mk hy201
          clear hy201
          have c11b0:=eq_true (of_decide_eq_true (by assumption):0 ≤ ((rd_T95 l1 x10_1).f1))
          have c12b0:=eq_true (of_decide_eq_true (by assumption):((rd_T95 l1 x10_1).f1) ≤ (x0_1.length:Int))
          obtain ⟨y204,hy204⟩:∃ y_:List (S26),y_ = (x0_1.drop (((rd_T95 l1 x10_1).f1):Int).toNat):=⟨_,rfl⟩
          replace H:(delta_Raw.l0 k1 y204 y201 l1 (l1.length:Int) (wrap64 (x10_1 + 1))) = some r:=by (rw [hy204];with_reducible exact H)
          have Ny204:=Aside0.mk hy204
          clear hy204
          have H':=Aside0.mk H
          clear H
          have p191:0 ≤ (x10_1:Int):=of_decide_eq_true (by assumption)
          have q191:x10_1 < (l1.length:Int):=of_decide_eq_true (by assumption)
          obtain ⟨ad191,A191_2,c191_2,A191_3,c191_3,e191,hx191_0,hx191_1,hx191_2,hx191_3,hl191_2,hi191_2,hl191_3,hi191_3⟩:=at_T95 HR1.out x10_1 p191 q191
          cases e191
          replace hx191_0:=(HB.out.cell (World.block_lt_of_cell? w _ hx191_0)).trans hx191_0
          replace hx191_1:=(HB.out.cell (World.block_lt_of_cell? w _ hx191_1)).trans hx191_1
          replace hx191_2:=(HB.out.cell (World.block_lt_of_cell? w _ hx191_2)).trans hx191_2
          replace hx191_3:=(HB.out.cell (World.block_lt_of_cell? w _ hx191_3)).trans hx191_3
          have HR191_2:=Aside0.mk hi191_2
          have HC191_2:=Aside0.mk hl191_2
          clear hi191_2 hl191_2
          have HR191_3:=Aside0.mk hi191_3
          have HC191_3:=Aside0.mk hl191_3
          clear hi191_3 hl191_3
          replace p191:=eq_true p191
          replace q191:=eq_true q191
          try go_wp2_with (((with_reducible refine gate_dst (N:=7) rfl ?_);refine box_event ?hg (N:=7) ?hd (cs:=#[.int .i64 0,.int .i64 0,.slice none 0 0,.slice none 0 0]) (t:=95) ?hr ?_;(case hd=>rfl);(case hg=>rfl);(case hr=>(go_simp;done));intro gb192 hg w13 hbox hb;have n0_:=Aside0.mk (Kd.V_below (Kd.V_elderB HO_0.out gb192 (Nat.le_of_eq hg.symm)) hb);have n1_:=Aside0.mk (Kd.N_below (Kd.N_elderB HO_5.out gb192 (Nat.le_of_eq hg.symm)) hb);have n2_:=Aside0.mk (below_step (by with_reducible exact HB.out) hb);have n3_:=Aside0.mk hbox;have n4_:=Aside0.mk ((by rw [hg];exact (below_size (by with_reducible exact HB.out)):w.heap.size ≤ gb192));have n5_:=Aside0.mk ((by rw [hg];exact (below_size (by with_reducible exact HB.out)):w.heap.size ≤ gb192));clear HO_0;clear HO_5;clear HB;have HO_0:=n0_;have HO_5:=n1_;have HB:=n2_;have BK192:=n3_;have GW192:=n4_;have GE192:=n5_;clear n0_ n1_ n2_ n3_ n4_ n5_;clear hb hbox hg;have hcz14_0:w13.cell? ⟨gb192,0,none⟩ = some (.int .i64 0):=(blk_cell BK192.out 0).trans rfl;have hcz14_1:w13.cell? ⟨gb192,1,none⟩ = some (.int .i64 0):=(blk_cell BK192.out 1).trans rfl;have hcz14_2:w13.cell? ⟨gb192,2,none⟩ = some (.slice none 0 0):=(blk_cell BK192.out 2).trans rfl;have hcz14_3:w13.cell? ⟨gb192,3,none⟩ = some (.slice none 0 0):=(blk_cell BK192.out 3).trans rfl;have hfz14_0:=blk_frozen BK192.out 0;have hfz14_1:=blk_frozen BK192.out 1;have hfz14_2:=blk_frozen BK192.out 2;have hfz14_3:=blk_frozen BK192.out 3))
          have n0_:Aside0 (Kd.V k26 26 ((((w13.setCell ⟨gb192,0,none⟩ (.int .i64 ((rd_T95 l1 x10_1).f0))).setCell ⟨gb192,1,none⟩ (.int .i64 ((rd_T95 l1 x10_1).f1))).setCell ⟨gb192,2,none⟩ (.slice A191_2 ((rd_T95 l1 x10_1).f2).length c191_2)).setCell ⟨gb192,3,none⟩ (.slice A191_3 ((rd_T95 l1 x10_1).f3).length c191_3)) w.heap.size (fun k_=>(P0_ k_ ∨ w.heap.size ≤ k_) ∧ some k_ ≠ (u5:Value).ownBlock ∧ k_ ≠ gb192) u0 x0_1):=⟨by exact Kd.V_mono (Kd.V_far (p:=⟨gb192,3,none⟩) (Kd.V_far (p:=⟨gb192,2,none⟩) (Kd.V_far (p:=⟨gb192,1,none⟩) (Kd.V_far (p:=⟨gb192,0,none⟩) (Kd.V_mono HO_0.out (fun k_ hk=>(⟨hk,hk.2⟩:_ ∧ k_ ≠ gb192))) (fun _ hk=>hk.2) (.int .i64 ((rd_T95 l1 x10_1).f0))) (fun _ hk=>hk.2) (.int .i64 ((rd_T95 l1 x10_1).f1))) (fun _ hk=>hk.2) (.slice A191_2 ((rd_T95 l1 x10_1).f2).length c191_2)) (fun _ hk=>hk.2) (.slice A191_3 ((rd_T95 l1 x10_1).f3).length c191_3)) (fun _ hk=>⟨hk.1.1.1,⟨hk.1.1.2,hk.1.2⟩⟩)⟩
          have n1_:Aside0 (Kd.N k26 26 ((((w13.setCell ⟨gb192,0,none⟩ (.int .i64 ((rd_T95 l1 x10_1).f0))).setCell ⟨gb192,1,none⟩ (.int .i64 ((rd_T95 l1 x10_1).f1))).setCell ⟨gb192,2,none⟩ (.slice A191_2 ((rd_T95 l1 x10_1).f2).length c191_2)).setCell ⟨gb192,3,none⟩ (.slice A191_3 ((rd_T95 l1 x10_1).f3).length c191_3)) w.heap.size (fun k_=>(P0_ k_ ∨ w.heap.size ≤ k_) ∧ k_ ≠ gb192) u5 x5_1):=⟨by exact Kd.N_mono (Kd.N_far (p:=⟨gb192,3,none⟩) (Kd.N_far (p:=⟨gb192,2,none⟩) (Kd.N_far (p:=⟨gb192,1,none⟩) (Kd.N_far (p:=⟨gb192,0,none⟩) (Kd.N_mono HO_5.out (fun k_ hk=>(⟨hk,hk.2⟩:_ ∧ k_ ≠ gb192))) (fun _ hk=>hk.2) (.int .i64 ((rd_T95 l1 x10_1).f0))) (fun _ hk=>hk.2) (.int .i64 ((rd_T95 l1 x10_1).f1))) (fun _ hk=>hk.2) (.slice A191_2 ((rd_T95 l1 x10_1).f2).length c191_2)) (fun _ hk=>hk.2) (.slice A191_3 ((rd_T95 l1 x10_1).f3).length c191_3)) (fun _ hk=>⟨hk.1.1,hk.1.2⟩)⟩
          have n2_:Aside0 (((((w13.setCell ⟨gb192,0,none⟩ (.int .i64 ((rd_T95 l1 x10_1).f0))).setCell ⟨gb192,1,none⟩ (.int .i64 ((rd_T95 l1 x10_1).f1))).setCell ⟨gb192,2,none⟩ (.slice A191_2 ((rd_T95 l1 x10_1).f2).length c191_2)).setCell ⟨gb192,3,none⟩ (.slice A191_3 ((rd_T95 l1 x10_1).f3).length c191_3)).heap[gb192]? = some (.cells #[.int .i64 ((rd_T95 l1 x10_1).f0),.int .i64 ((rd_T95 l1 x10_1).f1),.slice A191_2 ((rd_T95 l1 x10_1).f2).length c191_2,.slice A191_3 ((rd_T95 l1 x10_1).f3).length c191_3] 95 (0,0))):=⟨by (with_reducible repeat (first | refine blk_drewN ?_ _ | refine blk_drew ?_ | refine blk_alloc ?_ _));refine blk_put (cs:=#[.int .i64 ((rd_T95 l1 x10_1).f0),.int .i64 ((rd_T95 l1 x10_1).f1),.slice A191_2 ((rd_T95 l1 x10_1).f2).length c191_2,.slice none 0 0]) ?_ 3 _ rfl;(with_reducible repeat (first | refine blk_drewN ?_ _ | refine blk_drew ?_ | refine blk_alloc ?_ _));refine blk_put (cs:=#[.int .i64 ((rd_T95 l1 x10_1).f0),.int .i64 ((rd_T95 l1 x10_1).f1),.slice none 0 0,.slice none 0 0]) ?_ 2 _ rfl;(with_reducible repeat (first | refine blk_drewN ?_ _ | refine blk_drew ?_ | refine blk_alloc ?_ _));refine blk_put (cs:=#[.int .i64 ((rd_T95 l1 x10_1).f0),.int .i64 0,.slice none 0 0,.slice none 0 0]) ?_ 1 _ rfl;(with_reducible repeat (first | refine blk_drewN ?_ _ | refine blk_drew ?_ | refine blk_alloc ?_ _));refine blk_put (cs:=#[.int .i64 0,.int .i64 0,.slice none 0 0,.slice none 0 0]) ?_ 0 _ rfl;exact BK192.out⟩
          have n3_:Aside0 (Below w.heap.size w ((((w13.setCell ⟨gb192,0,none⟩ (.int .i64 ((rd_T95 l1 x10_1).f0))).setCell ⟨gb192,1,none⟩ (.int .i64 ((rd_T95 l1 x10_1).f1))).setCell ⟨gb192,2,none⟩ (.slice A191_2 ((rd_T95 l1 x10_1).f2).length c191_2)).setCell ⟨gb192,3,none⟩ (.slice A191_3 ((rd_T95 l1 x10_1).f3).length c191_3))):=⟨by repeat ((with_reducible first | exact HB.out | refine below_set ?_ GE192.out))⟩
          (try clear HO_0)
          (try clear HO_5)
          (try clear BK192)
          (try clear HB)
          generalize ((((w13.setCell ⟨gb192,0,none⟩ (.int .i64 ((rd_T95 l1 x10_1).f0))).setCell ⟨gb192,1,none⟩ (.int .i64 ((rd_T95 l1 x10_1).f1))).setCell ⟨gb192,2,none⟩ (.slice A191_2 ((rd_T95 l1 x10_1).f2).length c191_2)).setCell ⟨gb192,3,none⟩ (.slice A191_3 ((rd_T95 l1 x10_1).f3).length c191_3)) = w15 at n0_ n1_ n2_ n3_ ⊢
          have HO_0:=n0_
          have HO_5:=n1_
          have BK192:=n2_
          have HB:=n3_
          clear n0_ n1_ n2_ n3_
          have n0_:=Aside0.mk (Kd.V_drew HO_0.out)
          have n1_:=Aside0.mk (Kd.N_drew HO_5.out)
          have n2_:=Aside0.mk (blk_drew BK192.out)
          have n3_:=Aside0.mk (below_drew1 HB.out)
          clear HO_0
          clear HO_5
          clear BK192
          clear HB
          have HO_0:=n0_
          have HO_5:=n1_
          have BK192:=n2_
          have HB:=n3_
          clear n0_ n1_ n2_ n3_
          obtain ⟨Ao18,co18,eo18⟩:=Kd.V_slice HO_0.out
          (subst eo18)
          have q17:(((rd_T95 l1 x10_1).f1):Int) ≤ ((x0_1.length:Int):Int):=of_decide_eq_true (by assumption)
          obtain ⟨i017,hi017,_,hsz17,_⟩:=info_parts info26
          have hroom17:x0_1.length ≤ co18:=(Kd.V_reads' HO_0.out).2.1
          have hC17:Kd.F k26 _ _ Ao18 x0_1.length x0_1:=(Kd.V_at (base:=w.heap.size) HO_0.out).2.2
          have hcut17:=cut_to (P:=Try.prog) 22 26 .i64 Try.underlying22 hi017 Ao18 x0_1.length co18 ((rd_T95 l1 x10_1).f1) (of_decide_eq_true (by assumption)) q17 hroom17
          have hr17:=Kd.F_take (m:=(((rd_T95 l1 x10_1).f1):Int).toNat) hC17 (by omega)
          have hy17:y193.length = (((rd_T95 l1 x10_1).f1):Int).toNat:=(by rw [Ny193.out,List.length_take];omega)
          rw [← Ny193.out] at hr17
          rw [← hy17] at hcut17
          have HO197:=Aside0.mk (show Kd.V k26 26 _ w.heap.size _ (.slice Ao18 y193.length co18) y193 from Kd.V_mk (by omega) hr17)
          have HC197:=Aside0.mk (show y193.length ≤ co18 from by omega)
          clear hr17 hC17 hroom17 hi017 hsz17
          have KY17:=Aside0.mk hy17
          clear hy17
          replace q17:=eq_true q17
          refine start_ (n:=10) (S:=fun w'=>w'.cell? ⟨gb192,0,none⟩ = some (.int .i64 ((rd_T95 l1 x10_1).f0)) ∧ w'.cell? ⟨gb192,1,none⟩ = some (.int .i64 ((rd_T95 l1 x10_1).f1)) ∧ w'.cell? ⟨gb192,2,none⟩ = some (.slice A191_2 ((rd_T95 l1 x10_1).f2).length c191_2) ∧ w'.cell? ⟨gb192,3,none⟩ = some (.slice A191_3 ((rd_T95 l1 x10_1).f3).length c191_3)) (ds:=[]) #[false,false,false,false,false,false,false,false,false,false] (by kernel_rfl) rfl rfl ⟨(blk_cell BK192.out 0).trans rfl,(blk_cell BK192.out 1).trans rfl,(blk_cell BK192.out 2).trans rfl,(blk_cell BK192.out 3).trans rfl⟩ (fun hHeld=>?_);refine with_tabW delta_Raw.tab8 delta_Raw.bits8 (fun HT_ HW_=>?_)
          generalize w15.drew = w16 at HO_0 HO_5 BK192 HB HO197 hHeld ⊢
          refine pure_ (i:=0) (N:=some 22) (v:=?_) (a':=?_) (bm 1 10) rfl rfl (any_of HT_.out (by kernel_rfl)) (fun _ _ _ h=>h) (Or.inl ⟨by rfl,?_⟩) ?_ ?_
          rotate_left
          ·intro w'
           go_simp
           with_reducible rfl
          rotate_left
          ·simp only [Act.put,sA,sB,sC,i64_w,i32_w]
           rfl
          refine pure_ (i:=1) (N:=some 23) (v:=?_) (a':=?_) (bm 3 10) rfl rfl (any_of HT_.out (by kernel_rfl)) (fun _ _ _ h=>h) (Or.inl ⟨by rfl,?_⟩) ?_ ?_
          rotate_left
          ·intro w'
           go_simp
           with_reducible rfl
          rotate_left
          ·simp only [Act.put,sA,sB,sC,i64_w,i32_w]
           rfl
          refine pure_ (i:=2) (N:=some 24) (v:=?_) (a':=?_) (bm 7 10) rfl rfl (any_of HT_.out (by kernel_rfl)) (fun _ _ _ h=>h) (Or.inl ⟨by rfl,?_⟩) ?_ ?_
          rotate_left
          ·intro w'
           go_simp
           with_reducible rfl
          rotate_left
          ·simp only [Act.put,sA,sB,sC,i64_w,i32_w]
           rfl
          refine pure_ (i:=5) (N:=some 27) (v:=?_) (a':=?_) (bm 39 10) rfl rfl (any_of HT_.out (by kernel_rfl)) (fun _ _ _ h=>h) (Or.inl ⟨by rfl,?_⟩) ?_ ?_
          rotate_left
          ·intro w'
           go_simp
           with_reducible rfl
          rotate_left
          ·simp only [Act.put,sA,sB,sC,i64_w,i32_w]
           rfl
          refine take_ (i:=3) (N:=some 25) (v:=?_) (a':=?_) (bm 47 10) rfl rfl (take_ofW HT_.out HW_.out (by kernel_rfl)) (fun _ _ _ h=>h) (Or.inl ⟨by rfl,?_⟩) hHeld ?_ ?_
          rotate_left
          ·rintro w' ⟨s0,s1,s2,s3⟩
           go_simp
           with_reducible rfl
          rotate_left
          ·simp only [Act.put,sA,sB,sC,i64_w,i32_w]
           rfl
          refine pure_ (i:=4) (N:=some 26) (v:=?_) (a':=?_) (bm 63 10) rfl rfl (any_of HT_.out (by kernel_rfl)) (fun _ _ _ h=>h) (Or.inl ⟨by rfl,?_⟩) ?_ ?_
          rotate_left
          ·intro w'
           go_simp
           with_reducible rfl
          rotate_left
          ·simp only [Act.put,sA,sB,sC,i64_w,i32_w]
           rfl
          refine take_ (i:=6) (N:=some 28) (v:=?_) (a':=?_) (bm 127 10) rfl rfl (take_ofW HT_.out HW_.out (by kernel_rfl)) (fun _ _ _ h=>h) (Or.inl ⟨by rfl,?_⟩) hHeld ?_ ?_
          rotate_left
          ·rintro w' ⟨s0,s1,s2,s3⟩
           go_simp
           with_reducible rfl
          rotate_left
          ·simp only [Act.put,sA,sB,sC,i64_w,i32_w]
           rfl
          refine one_ (i:=7) (N:=some 29) (bm 255 10) rfl rfl (one_of HT_.out (by kernel_rfl)) (by decide) (fun K hK=>?_)
          refine goes_ Try.func91 (by kernel_rfl) rfl #[.slice Ao18 y193.length co18,.slice A191_2 ((rd_T95 l1 x10_1).f2).length c191_2] (by rfl) rfl rfl (by (try simp only [List.map_toArray,List.map_cons,List.map_nil]);rfl) ?_
          with_reducible refine (delta_changed.calls k1 _ _ y193 _ _ ((rd_T95 l1 x10_1).f2) t198 _ ?side1 ?side2 ?side3 ?side4 A9.out).mono ?_
          (case side1=>repeat (exact (Kd.V_reads' HO197.out).2.2))
          (case side2=>exact (Kd.V_reads' HO197.out).2.1)
          (case side3=>repeat (exact (Kd.C_below HR191_2.out HB.out)))
          (case side4=>exact HC191_2.out)
          rintro e w19 ⟨v199,rfl,ho0,hb⟩
          refine ⟨_,rfl,?_⟩
          have n0_:=Aside0.mk (Kd.V_elder' HO_0.out (Kd.N_base (by exact Kd.S_N ho0)) hb)
          have n1_:=Aside0.mk (Kd.N_elder' HO_5.out (Kd.N_base (by exact Kd.S_N ho0)) hb)
          have n2_:=Aside0.mk (Kd.V_elder' HO197.out (Kd.N_base (by exact Kd.S_N ho0)) hb)
          have n3_:=Aside0.mk (Kd.N_lower (Kd.N_mono (ok':=fun k_=>(P0_ k_ ∨ w.heap.size ≤ k_) ∧ some k_ ≠ (u5:Value).ownBlock ∧ k_ ≠ gb192) (Kd.S_N (Kd.S_bound ho0)) (fun k_ hk_=>⟨(.inr (Nat.le_trans (below_size HB.out) hk_.2.1)),(Kd.fresh' (Kd.N_lt HO_5.out) k_ hk_.2.1),(Kd.freshB BK192.out k_ hk_.2.1)⟩)) (below_size HB.out))
          have n4_:=Aside0.mk (blk_below BK192.out hb)
          have n5_:=Aside0.mk (below_step HB.out hb)
          clear HO_0
          clear HO_5
          clear HO197
          clear BK192
          clear HB
          have HO_0:=n0_
          have HO_5:=n1_
          have HO197:=n2_
          have HO200:=n3_
          have BK192:=n4_
          have HB:=n5_
          clear n0_ n1_ n2_ n3_ n4_ n5_
          (try clear hb)
          (try clear hb2)
          (try clear hk)
          (try clear hi)
          (try clear ho0)
          obtain ⟨Ao21,co21,eo21⟩:=Kd.N_slice HO200.out
          (subst eo21)
          refine hK.out _ _ ⟨(blk_cell BK192.out 0).trans rfl,(blk_cell BK192.out 1).trans rfl,(blk_cell BK192.out 2).trans rfl,(blk_cell BK192.out 3).trans rfl⟩ (fun hHeld=>?_)
          clear hK K
          refine norm_ (a':=?_) ?_ ?_
          rotate_left
          ·show Act.put _ (some 29) _ = _
           simp only [Act.put,sA,sB,sC,i64_w,i32_w]
           rfl
          refine one_ (i:=8) (N:=some 30) (bm 511 10) rfl rfl (one_of HT_.out (by kernel_rfl)) (by decide) (fun K hK=>?_)
          refine Kd.N_append_rows_step k26 (w0:=w) w.heap.size (by rfl) (.tmp 22) (.tmp 29) 22 26 (.agg #[(.int .i64 0),(.int .i64 0),(.slice none 0 0)]) 40 rfl Try.underlying22 info26 rfl (by decide) (by omega) u5 x5_1 t198 _ _ _ (fun k_=>(P0_ k_ ∨ w.heap.size ≤ k_) ∧ k_ ≠ gb192) (fun k_=>((fun k_=>(P0_ k_ ∨ w.heap.size ≤ k_) ∧ k_ ≠ gb192)) k_ ∧ some k_ ≠ (u5:Value).ownBlock) rfl rfl ?aO ?aR (fun _ hk=>hk) ?aF ?aB ?aS ?aL ?_
          (case aR=>exact (by skip;exact Kd.N_F (Kd.N_mono (ok':=(fun k_=>((fun k_=>(P0_ k_ ∨ w.heap.size ≤ k_) ∧ k_ ≠ gb192)) k_ ∧ some k_ ≠ (u5:Value).ownBlock)) (HO200.out) (fun k_ hk=>⟨⟨hk.1,hk.2.2⟩,hk.2.1⟩))))
          (case aB=>exact HB.out)
          (case aF=>exact (fun k_ hk=>⟨(.inr (Nat.le_trans (below_size HB.out) hk)),Kd.freshB BK192.out k_ hk⟩))
          (case aO=>exact (by exact Kd.N_mono HO_5.out (fun _ hk=>⟨hk.1.1,hk.1.2⟩)))
          (case aS=>exact (below_size HB.out))
          (case aL=>have:=LMc10.out;omega)
          intro v202 w20 ho hb hg hat
          rw [← Ny201.out] at ho
          have n0_:=Aside0.mk (Kd.V_afterv (ok:=(fun k_=>(P0_ k_ ∨ w.heap.size ≤ k_) ∧ some k_ ≠ (.slice Ao21 t198.length co21:Value).ownBlock ∧ k_ ≠ gb192)) (by exact Kd.V_mono HO_0.out (fun _ hk=>⟨⟨hk.1.1,⟨hk.2,hk.1.2.2⟩⟩,hk.1.2.1⟩)) hg hat)
          have n1_:=Aside0.mk (blk_grown BK192.out hg (Kd.N_ne HO_5.out BK192.out (by decide)))
          have n2_:=Aside0.mk (Kd.V_afterv (ok:=(fun k_=>(P0_ k_ ∨ w.heap.size ≤ k_) ∧ some k_ ≠ (.slice Ao21 t198.length co21:Value).ownBlock ∧ k_ ≠ gb192)) (by exact Kd.V_mono HO197.out (fun _ hk=>⟨⟨hk.1.1,⟨hk.2,hk.1.2.2⟩⟩,hk.1.2.1⟩)) hg hat)
          have n3_:=Aside0.mk (Kd.N_afterv (ok:=(fun k_=>(P0_ k_ ∨ w.heap.size ≤ k_) ∧ k_ ≠ gb192)) (by exact Kd.N_mono HO200.out (fun _ hk=>⟨⟨hk.1,hk.2.2⟩,hk.2.1⟩)) hg hat)
          have n4_:=Aside0.mk hb
          have n5_:=Aside0.mk ho
          clear HO_0
          clear BK192
          clear HO197
          clear HO200
          clear HB
          clear HO_5
          have HO_0:=n0_
          have BK192:=n1_
          have HO197:=n2_
          have HO200:=n3_
          have HB:=n4_
          have HO203:=n5_
          clear n0_ n1_ n2_ n3_ n4_ n5_
          clear ho hb hg hat
          refine hK.out _ _ ⟨(blk_cell BK192.out 0).trans rfl,(blk_cell BK192.out 1).trans rfl,(blk_cell BK192.out 2).trans rfl,(blk_cell BK192.out 3).trans rfl⟩ (fun hHeld=>?_)
          clear hK K
          refine norm_ (a':=?_) ?_ ?_
          rotate_left
          ·show Act.put _ (some 30) _ = _
           simp only [Act.put,sA,sB,sC,i64_w,i32_w]
           rfl
          refine pure_ (i:=9) (N:=some 5) (v:=?_) (a':=?_) (bm 1023 10) rfl rfl (any_of HT_.out (by kernel_rfl)) (fun _ _ _ h=>h) (Or.inl ⟨by rfl,?_⟩) ?_ ?_
          rotate_left
          ·intro w'
           go_simp
           with_reducible rfl
          rotate_left
          ·simp only [Act.put,sA,sB,sC,i64_w,i32_w]
           rfl
          refine done_ (done_of HT_.out (by kernel_rfl)) ?_
          have hcz22_0:w20.cell? ⟨gb192,0,none⟩ = some (.int .i64 ((rd_T95 l1 x10_1).f0)):=(blk_cell BK192.out 0).trans rfl
          have hcz22_1:w20.cell? ⟨gb192,1,none⟩ = some (.int .i64 ((rd_T95 l1 x10_1).f1)):=(blk_cell BK192.out 1).trans rfl
          have hcz22_2:w20.cell? ⟨gb192,2,none⟩ = some (.slice A191_2 ((rd_T95 l1 x10_1).f2).length c191_2):=(blk_cell BK192.out 2).trans rfl
          have hcz22_3:w20.cell? ⟨gb192,3,none⟩ = some (.slice A191_3 ((rd_T95 l1 x10_1).f3).length c191_3):=(blk_cell BK192.out 3).trans rfl
          have hfz22_0:=blk_frozen BK192.out 0
          have hfz22_1:=blk_frozen BK192.out 1
          have hfz22_2:=blk_frozen BK192.out 2
          have hfz22_3:=blk_frozen BK192.out 3
          have q23:(((rd_T95 l1 x10_1).f1):Int) ≤ ((x0_1.length:Int):Int):=of_decide_eq_true (by assumption)
          obtain ⟨i023,hi023,_,hsz23,_⟩:=info_parts info26
          have hroom23:x0_1.length ≤ co18:=(Kd.V_reads' HO_0.out).2.1
          have hC23:Kd.F k26 _ _ Ao18 x0_1.length x0_1:=(Kd.V_at (base:=w.heap.size) HO_0.out).2.2
          have q023:(0:Int) ≤ (((rd_T95 l1 x10_1).f1):Int):=of_decide_eq_true (by assumption)
          have hcut23:=cut_from (P:=Try.prog) 22 26 .i64 Try.underlying22 hi023 3 hsz23 Ao18 x0_1.length co18 ((rd_T95 l1 x10_1).f1) q023 q23
          have hr23:=Kd.F_cut (m:=(((rd_T95 l1 x10_1).f1):Int).toNat) (c:=co18) hC23 (by omega) hroom23
          obtain ⟨A23,hA23⟩:∃ A1,A1 = (if co18 = (((rd_T95 l1 x10_1).f1):Int).toNat then Ao18 else (Ao18:Option Addr).map (·.add ((((rd_T95 l1 x10_1).f1):Int).toNat * 3))):=⟨_,rfl⟩
          obtain ⟨c23,hc23⟩:∃ c1,c1 = co18 - (((rd_T95 l1 x10_1).f1):Int).toNat:=⟨_,rfl⟩
          have hy23:y204.length = x0_1.length - (((rd_T95 l1 x10_1).f1):Int).toNat:=(by rw [Ny204.out,List.length_drop] <;> omega)
          rw [show (x0_1).drop (((rd_T95 l1 x10_1).f1):Int).toNat = y204 from Ny204.out.symm] at hr23
          replace hr23:Kd.F k26 _ _ A23 y204.length y204:=(by rw [hA23];exact hr23)
          rw [← hy23,← hA23,← hc23] at hcut23
          have HO208:=Aside0.mk (show Kd.V k26 26 _ w.heap.size _ (.slice A23 y204.length c23) y204 from Kd.V_mk (by rw [hy23,hc23];exact Nat.sub_le_sub_right hroom23 _) hr23)
          have HC208:=Aside0.mk (show y204.length ≤ c23 from by rw [hy23,hc23];exact Nat.sub_le_sub_right hroom23 _)
          clear hr23 hC23 hroom23 hi023 hsz23 hc23
          have KY23:=Aside0.mk hy23
          have KA23:=Aside0.mk hA23
          clear hy23 hA23
          replace q23:=eq_true q23
          try go_wp2
          go_roundg k1
          case measure=>have:=HK1.out;omega
          case rel=>exact ⟨(y204),(y201),(wrap64 (x10_1 + 1)),(by rfl),H',⟨by have:=HK1.out;omega⟩,⟨by exact Kd.V_mono HO208.out (fun _ hk=>⟨hk.1.1,hk.2⟩)⟩,⟨by exact Kd.N_mono HO203.out (fun _ hk=>hk.1)⟩,⟨HB.out⟩⟩
         ·rw [if_neg c10] at H
          exact absurd H (by simp)
        ·rw [if_neg c8] at H
         exact absurd H (by simp)
       ·rw [if_neg c7] at H
        exact absurd H (by simp)
      ·rw [if_neg c6] at H
       have c6b0:(((rd_T95 l1 x10_1).f0) == 0) = false:=beq_eq_false_iff_ne.mpr c6
       have c6b1:(((rd_T95 l1 x10_1).f0) != 0) = true:=bne_iff_ne.mpr c6
       by_cases c24:((rd_T95 l1 x10_1).f0) = 1
       ·rw [if_pos c24] at H
        have c24b0:(((rd_T95 l1 x10_1).f0) == 1) = true:=beq_iff_eq.mpr c24
        have c24b1:(((rd_T95 l1 x10_1).f0) != 1) = false:=bne_eq_false_iff_eq.mpr c24
        clear c24
        replace H:=Option.bind_eq_some_iff.mp H
        obtain ⟨t209,A250,H⟩:=H
        replace H:(if x5_1.length + t209.length < 3518437208883 then (delta_Raw.l0 k1 x0_1 (x5_1 ++ t209) l1 (l1.length:Int) (wrap64 (x10_1 + 1))) else (none)) = some r:=H
        have A25:=Aside0.mk A250
        clear A250
        by_cases c26:x5_1.length + t209.length < 3518437208883
        ·rw [if_pos c26] at H
         have LMc26:=Aside0.mk c26
         clear c26
         obtain ⟨y212,hy212⟩:∃ y_:List (S26),y_ = (x5_1 ++ t209):=⟨_,rfl⟩
         replace H:(delta_Raw.l0 k1 x0_1 y212 l1 (l1.length:Int) (wrap64 (x10_1 + 1))) = some r:=by (rw [hy212];with_reducible exact H)
         have Ny212:=Aside0.mk hy212
         clear hy212
         have H':=Aside0.mk H
         clear H
         have p191:0 ≤ (x10_1:Int):=of_decide_eq_true (by assumption)
         have q191:x10_1 < (l1.length:Int):=of_decide_eq_true (by assumption)
         obtain ⟨ad191,A191_2,c191_2,A191_3,c191_3,e191,hx191_0,hx191_1,hx191_2,hx191_3,hl191_2,hi191_2,hl191_3,hi191_3⟩:=at_T95 HR1.out x10_1 p191 q191
         cases e191
         replace hx191_0:=(HB.out.cell (World.block_lt_of_cell? w _ hx191_0)).trans hx191_0
         replace hx191_1:=(HB.out.cell (World.block_lt_of_cell? w _ hx191_1)).trans hx191_1
         replace hx191_2:=(HB.out.cell (World.block_lt_of_cell? w _ hx191_2)).trans hx191_2
         replace hx191_3:=(HB.out.cell (World.block_lt_of_cell? w _ hx191_3)).trans hx191_3
         have HR191_2:=Aside0.mk hi191_2
         have HC191_2:=Aside0.mk hl191_2
         clear hi191_2 hl191_2
         have HR191_3:=Aside0.mk hi191_3
         have HC191_3:=Aside0.mk hl191_3
         clear hi191_3 hl191_3
         replace p191:=eq_true p191
         replace q191:=eq_true q191
         go_wp2_with (first | ((with_reducible refine gate_dst (N:=7) rfl ?_);refine box_event ?hg (N:=7) ?hd (cs:=#[.int .i64 0,.int .i64 0,.slice none 0 0,.slice none 0 0]) (t:=95) ?hr ?_;(case hd=>rfl);(case hg=>rfl);(case hr=>(go_simp;done));intro gb192 hg w27 hbox hb;have n0_:=Aside0.mk (Kd.V_below (Kd.V_elderB HO_0.out gb192 (Nat.le_of_eq hg.symm)) hb);have n1_:=Aside0.mk (Kd.N_below (Kd.N_elderB HO_5.out gb192 (Nat.le_of_eq hg.symm)) hb);have n2_:=Aside0.mk (below_step (by with_reducible exact HB.out) hb);have n3_:=Aside0.mk hbox;have n4_:=Aside0.mk ((by rw [hg];exact (below_size (by with_reducible exact HB.out)):w.heap.size ≤ gb192));have n5_:=Aside0.mk ((by rw [hg];exact (below_size (by with_reducible exact HB.out)):w.heap.size ≤ gb192));clear HO_0;clear HO_5;clear HB;have HO_0:=n0_;have HO_5:=n1_;have HB:=n2_;have BK192:=n3_;have GW192:=n4_;have GE192:=n5_;clear n0_ n1_ n2_ n3_ n4_ n5_;clear hb hbox hg;have hcz28_0:w27.cell? ⟨gb192,0,none⟩ = some (.int .i64 0):=(blk_cell BK192.out 0).trans rfl;have hcz28_1:w27.cell? ⟨gb192,1,none⟩ = some (.int .i64 0):=(blk_cell BK192.out 1).trans rfl;have hcz28_2:w27.cell? ⟨gb192,2,none⟩ = some (.slice none 0 0):=(blk_cell BK192.out 2).trans rfl;have hcz28_3:w27.cell? ⟨gb192,3,none⟩ = some (.slice none 0 0):=(blk_cell BK192.out 3).trans rfl;have hfz28_0:=blk_frozen BK192.out 0;have hfz28_1:=blk_frozen BK192.out 1;have hfz28_2:=blk_frozen BK192.out 2;have hfz28_3:=blk_frozen BK192.out 3) | ((with_reducible refine gate_callee (f:=92) rfl ?_);refine goesL_ (some 40) rfl rfl Try.func92 (by kernel_rfl) rfl #[.slice A191_3 ((rd_T95 l1 x10_1).f3).length c191_3] rfl (by (try simp only [List.map_toArray,List.map_cons,List.map_nil]);rfl) ?_;(with_reducible refine (flow_Copy.calls k1 _ _ ((rd_T95 l1 x10_1).f3) t209 _ ?side1 ?side2 A25.out).mono ?_);(case side1=>exact Kd.C_below HR191_3.out (by repeat ((with_reducible first | exact HB.out | refine below_set ?_ GE192.out))));(case side2=>exact HC191_3.out);rintro e w29 ⟨v210,rfl,ho0,hb⟩;refine ⟨_,rfl,?_⟩;have n0_:=Aside0.mk (Kd.V_elder' (by exact (Kd.V_mono (Kd.V_far (p:=⟨gb192,3,none⟩) (Kd.V_far (p:=⟨gb192,2,none⟩) (Kd.V_far (p:=⟨gb192,1,none⟩) (Kd.V_far (p:=⟨gb192,0,none⟩) (Kd.V_mono HO_0.out (fun k_ hk=>(⟨hk,hk.2⟩:_ ∧ k_ ≠ gb192))) (fun _ hk=>hk.2) (.int .i64 ((rd_T95 l1 x10_1).f0))) (fun _ hk=>hk.2) (.int .i64 ((rd_T95 l1 x10_1).f1))) (fun _ hk=>hk.2) (.slice A191_2 ((rd_T95 l1 x10_1).f2).length c191_2)) (fun _ hk=>hk.2) (.slice A191_3 ((rd_T95 l1 x10_1).f3).length c191_3)) (fun _ h_=>h_.1))) (Kd.N_base ho0) hb);have n1_:=Aside0.mk (Kd.N_elder' (by exact (Kd.N_mono (Kd.N_far (p:=⟨gb192,3,none⟩) (Kd.N_far (p:=⟨gb192,2,none⟩) (Kd.N_far (p:=⟨gb192,1,none⟩) (Kd.N_far (p:=⟨gb192,0,none⟩) (Kd.N_mono HO_5.out (fun k_ hk=>(⟨hk,hk.2⟩:_ ∧ k_ ≠ gb192))) (fun _ hk=>hk.2) (.int .i64 ((rd_T95 l1 x10_1).f0))) (fun _ hk=>hk.2) (.int .i64 ((rd_T95 l1 x10_1).f1))) (fun _ hk=>hk.2) (.slice A191_2 ((rd_T95 l1 x10_1).f2).length c191_2)) (fun _ hk=>hk.2) (.slice A191_3 ((rd_T95 l1 x10_1).f3).length c191_3)) (fun _ h_=>h_.1))) (Kd.N_base ho0) hb);have n2_:=Aside0.mk (Kd.N_lower (Kd.N_mono (ok':=fun k_=>(P0_ k_ ∨ w.heap.size ≤ k_) ∧ some k_ ≠ (u5:Value).ownBlock ∧ k_ ≠ gb192) ho0 (fun k_ hk_=>⟨(.inr (Nat.le_trans (below_size (by repeat ((with_reducible first | exact HB.out | refine below_set ?_ GE192.out)))) hk_)),(Kd.fresh' (Kd.N_lt (by exact (Kd.N_mono (Kd.N_far (p:=⟨gb192,3,none⟩) (Kd.N_far (p:=⟨gb192,2,none⟩) (Kd.N_far (p:=⟨gb192,1,none⟩) (Kd.N_far (p:=⟨gb192,0,none⟩) (Kd.N_mono HO_5.out (fun k_ hk=>(⟨hk,hk.2⟩:_ ∧ k_ ≠ gb192))) (fun _ hk=>hk.2) (.int .i64 ((rd_T95 l1 x10_1).f0))) (fun _ hk=>hk.2) (.int .i64 ((rd_T95 l1 x10_1).f1))) (fun _ hk=>hk.2) (.slice A191_2 ((rd_T95 l1 x10_1).f2).length c191_2)) (fun _ hk=>hk.2) (.slice A191_3 ((rd_T95 l1 x10_1).f3).length c191_3)) (fun _ h_=>h_.1)))) k_ hk_),(Kd.freshB (g:=gb192) (o:=.cells #[.int .i64 ((rd_T95 l1 x10_1).f0),.int .i64 ((rd_T95 l1 x10_1).f1),.slice A191_2 ((rd_T95 l1 x10_1).f2).length c191_2,.slice A191_3 ((rd_T95 l1 x10_1).f3).length c191_3] 95 (0,0)) (by (with_reducible repeat (first | refine blk_drewN ?_ _ | refine blk_drew ?_ | refine blk_alloc ?_ _));refine blk_put (cs:=#[.int .i64 ((rd_T95 l1 x10_1).f0),.int .i64 ((rd_T95 l1 x10_1).f1),.slice A191_2 ((rd_T95 l1 x10_1).f2).length c191_2,.slice none 0 0]) ?_ 3 _ rfl;(with_reducible repeat (first | refine blk_drewN ?_ _ | refine blk_drew ?_ | refine blk_alloc ?_ _));refine blk_put (cs:=#[.int .i64 ((rd_T95 l1 x10_1).f0),.int .i64 ((rd_T95 l1 x10_1).f1),.slice none 0 0,.slice none 0 0]) ?_ 2 _ rfl;(with_reducible repeat (first | refine blk_drewN ?_ _ | refine blk_drew ?_ | refine blk_alloc ?_ _));refine blk_put (cs:=#[.int .i64 ((rd_T95 l1 x10_1).f0),.int .i64 0,.slice none 0 0,.slice none 0 0]) ?_ 1 _ rfl;(with_reducible repeat (first | refine blk_drewN ?_ _ | refine blk_drew ?_ | refine blk_alloc ?_ _));refine blk_put (cs:=#[.int .i64 0,.int .i64 0,.slice none 0 0,.slice none 0 0]) ?_ 0 _ rfl;exact BK192.out) k_ hk_)⟩)) (below_size (by repeat ((with_reducible first | exact HB.out | refine below_set ?_ GE192.out)))));have n3_:=Aside0.mk (blk_below (g:=gb192) (o:=.cells #[.int .i64 ((rd_T95 l1 x10_1).f0),.int .i64 ((rd_T95 l1 x10_1).f1),.slice A191_2 ((rd_T95 l1 x10_1).f2).length c191_2,.slice A191_3 ((rd_T95 l1 x10_1).f3).length c191_3] 95 (0,0)) (by (with_reducible repeat (first | refine blk_drewN ?_ _ | refine blk_drew ?_ | refine blk_alloc ?_ _));refine blk_put (cs:=#[.int .i64 ((rd_T95 l1 x10_1).f0),.int .i64 ((rd_T95 l1 x10_1).f1),.slice A191_2 ((rd_T95 l1 x10_1).f2).length c191_2,.slice none 0 0]) ?_ 3 _ rfl;(with_reducible repeat (first | refine blk_drewN ?_ _ | refine blk_drew ?_ | refine blk_alloc ?_ _));refine blk_put (cs:=#[.int .i64 ((rd_T95 l1 x10_1).f0),.int .i64 ((rd_T95 l1 x10_1).f1),.slice none 0 0,.slice none 0 0]) ?_ 2 _ rfl;(with_reducible repeat (first | refine blk_drewN ?_ _ | refine blk_drew ?_ | refine blk_alloc ?_ _));refine blk_put (cs:=#[.int .i64 ((rd_T95 l1 x10_1).f0),.int .i64 0,.slice none 0 0,.slice none 0 0]) ?_ 1 _ rfl;(with_reducible repeat (first | refine blk_drewN ?_ _ | refine blk_drew ?_ | refine blk_alloc ?_ _));refine blk_put (cs:=#[.int .i64 0,.int .i64 0,.slice none 0 0,.slice none 0 0]) ?_ 0 _ rfl;exact BK192.out) hb);have n4_:=Aside0.mk (below_step (by repeat ((with_reducible first | exact HB.out | refine below_set ?_ GE192.out))) hb);clear HO_0;clear HO_5;clear BK192;clear HB;have HO_0:=n0_;have HO_5:=n1_;have HO211:=n2_;have BK192:=n3_;have HB:=n4_;clear n0_ n1_ n2_ n3_ n4_;(try clear hb);(try clear hb2);(try clear hk);(try clear hi);(try clear ho0);obtain ⟨Ao31,co31,eo31⟩:=Kd.N_slice HO211.out;subst eo31) | ((with_reducible refine gate_builtin (b:=.append) (xs:=#[.tmp 37,.tmp 40]) rfl ?_);at_builtin;refine Kd.N_append_rows k26 (w0:=w) w.heap.size rfl (.tmp 37) (.tmp 40) 22 26 (.agg #[(.int .i64 0),(.int .i64 0),(.slice none 0 0)]) 40 rfl Try.underlying22 info26 rfl (by decide) (by omega) u5 x5_1 t209 _ _ _ (fun k_=>(P0_ k_ ∨ w.heap.size ≤ k_) ∧ k_ ≠ gb192) (fun k_=>((fun k_=>(P0_ k_ ∨ w.heap.size ≤ k_) ∧ k_ ≠ gb192)) k_ ∧ some k_ ≠ (u5:Value).ownBlock) rfl rfl ?aO ?aR (fun _ hk=>hk) ?aF ?aB ?aS ?aL ?_;(case aR=>exact (by skip;exact Kd.N_F (Kd.N_mono (ok':=(fun k_=>((fun k_=>(P0_ k_ ∨ w.heap.size ≤ k_) ∧ k_ ≠ gb192)) k_ ∧ some k_ ≠ (u5:Value).ownBlock)) (HO211.out) (fun k_ hk=>⟨⟨hk.1,hk.2.2⟩,hk.2.1⟩))));(case aB=>exact HB.out);(case aF=>exact (fun k_ hk=>⟨(.inr (Nat.le_trans (below_size HB.out) hk)),Kd.freshB BK192.out k_ hk⟩));(case aO=>exact (by exact Kd.N_mono HO_5.out (fun _ hk=>⟨hk.1.1,hk.1.2⟩)));(case aS=>exact (below_size HB.out));(case aL=>have:=LMc26.out;omega);intro v213 w30 ho hb hg hat;rw [← Ny212.out] at ho;have n0_:=Aside0.mk (Kd.V_afterv (ok:=(fun k_=>(P0_ k_ ∨ w.heap.size ≤ k_) ∧ some k_ ≠ (.slice Ao31 t209.length co31:Value).ownBlock ∧ k_ ≠ gb192)) (by exact Kd.V_mono HO_0.out (fun _ hk=>⟨⟨hk.1.1.1,⟨hk.2,hk.1.2⟩⟩,hk.1.1.2⟩)) hg hat);have n1_:=Aside0.mk (blk_grown BK192.out hg (Kd.N_ne HO_5.out BK192.out (by decide)));have n2_:=Aside0.mk (Kd.N_afterv (ok:=(fun k_=>(P0_ k_ ∨ w.heap.size ≤ k_) ∧ k_ ≠ gb192)) (by exact Kd.N_mono HO211.out (fun _ hk=>⟨⟨hk.1,hk.2.2⟩,hk.2.1⟩)) hg hat);have n3_:=Aside0.mk hb;have n4_:=Aside0.mk ho;clear HO_0;clear BK192;clear HO211;clear HB;clear HO_5;have HO_0:=n0_;have BK192:=n1_;have HO211:=n2_;have HB:=n3_;have HO214:=n4_;clear n0_ n1_ n2_ n3_ n4_;clear ho hb hg hat))
         go_roundg k1
         case measure=>have:=HK1.out;omega
         case rel=>exact ⟨(x0_1),(y212),(wrap64 (x10_1 + 1)),(by rfl),H',⟨by have:=HK1.out;omega⟩,⟨by exact Kd.V_mono HO_0.out (fun _ hk=>⟨hk.1.1,hk.2⟩)⟩,⟨by exact Kd.N_mono HO214.out (fun _ hk=>hk.1)⟩,⟨HB.out⟩⟩
        ·rw [if_neg c26] at H
         exact absurd H (by simp)
       ·rw [if_neg c24] at H
        have c24b0:(((rd_T95 l1 x10_1).f0) == 1) = false:=beq_eq_false_iff_ne.mpr c24
        have c24b1:(((rd_T95 l1 x10_1).f0) != 1) = true:=bne_iff_ne.mpr c24
        by_cases c32:0 ≤ ((rd_T95 l1 x10_1).f1)
        ·rw [if_pos c32] at H
         have c32b0:=eq_true c32
         have c32b1:decide (0 ≤ ((rd_T95 l1 x10_1).f1)) = true:=decide_eq_true c32
         clear c32
         by_cases c33:((rd_T95 l1 x10_1).f1) ≤ (x0_1.length:Int)
         ·rw [if_pos c33] at H
          have c33b0:=eq_true c33
          have c33b1:decide (((rd_T95 l1 x10_1).f1) ≤ (x0_1.length:Int)) = true:=decide_eq_true c33
          clear c33
          obtain ⟨y215,hy215⟩:∃ y_:List (S26),y_ = (x0_1.drop (((rd_T95 l1 x10_1).f1):Int).toNat):=⟨_,rfl⟩
          replace H:(delta_Raw.l0 k1 y215 x5_1 l1 (l1.length:Int) (wrap64 (x10_1 + 1))) = some r:=by (rw [hy215];with_reducible exact H)
          have Ny215:=Aside0.mk hy215
          clear hy215
          have H':=Aside0.mk H
          clear H
          have p191:0 ≤ (x10_1:Int):=of_decide_eq_true (by assumption)
          have q191:x10_1 < (l1.length:Int):=of_decide_eq_true (by assumption)
          obtain ⟨ad191,A191_2,c191_2,A191_3,c191_3,e191,hx191_0,hx191_1,hx191_2,hx191_3,hl191_2,hi191_2,hl191_3,hi191_3⟩:=at_T95 HR1.out x10_1 p191 q191
          cases e191
          replace hx191_0:=(HB.out.cell (World.block_lt_of_cell? w _ hx191_0)).trans hx191_0
          replace hx191_1:=(HB.out.cell (World.block_lt_of_cell? w _ hx191_1)).trans hx191_1
          replace hx191_2:=(HB.out.cell (World.block_lt_of_cell? w _ hx191_2)).trans hx191_2
          replace hx191_3:=(HB.out.cell (World.block_lt_of_cell? w _ hx191_3)).trans hx191_3
          have HR191_2:=Aside0.mk hi191_2
          have HC191_2:=Aside0.mk hl191_2
          clear hi191_2 hl191_2
          have HR191_3:=Aside0.mk hi191_3
          have HC191_3:=Aside0.mk hl191_3
          clear hi191_3 hl191_3
          replace p191:=eq_true p191
          replace q191:=eq_true q191
          go_wp2_with (first | ((with_reducible refine gate_dst (N:=7) rfl ?_);refine box_event ?hg (N:=7) ?hd (cs:=#[.int .i64 0,.int .i64 0,.slice none 0 0,.slice none 0 0]) (t:=95) ?hr ?_;(case hd=>rfl);(case hg=>rfl);(case hr=>(go_simp;done));intro gb192 hg w34 hbox hb;have n0_:=Aside0.mk (Kd.V_below (Kd.V_elderB HO_0.out gb192 (Nat.le_of_eq hg.symm)) hb);have n1_:=Aside0.mk (Kd.N_below (Kd.N_elderB HO_5.out gb192 (Nat.le_of_eq hg.symm)) hb);have n2_:=Aside0.mk (below_step (by with_reducible exact HB.out) hb);have n3_:=Aside0.mk hbox;have n4_:=Aside0.mk ((by rw [hg];exact (below_size (by with_reducible exact HB.out)):w.heap.size ≤ gb192));have n5_:=Aside0.mk ((by rw [hg];exact (below_size (by with_reducible exact HB.out)):w.heap.size ≤ gb192));clear HO_0;clear HO_5;clear HB;have HO_0:=n0_;have HO_5:=n1_;have HB:=n2_;have BK192:=n3_;have GW192:=n4_;have GE192:=n5_;clear n0_ n1_ n2_ n3_ n4_ n5_;clear hb hbox hg;have hcz35_0:w34.cell? ⟨gb192,0,none⟩ = some (.int .i64 0):=(blk_cell BK192.out 0).trans rfl;have hcz35_1:w34.cell? ⟨gb192,1,none⟩ = some (.int .i64 0):=(blk_cell BK192.out 1).trans rfl;have hcz35_2:w34.cell? ⟨gb192,2,none⟩ = some (.slice none 0 0):=(blk_cell BK192.out 2).trans rfl;have hcz35_3:w34.cell? ⟨gb192,3,none⟩ = some (.slice none 0 0):=(blk_cell BK192.out 3).trans rfl;have hfz35_0:=blk_frozen BK192.out 0;have hfz35_1:=blk_frozen BK192.out 1;have hfz35_2:=blk_frozen BK192.out 2;have hfz35_3:=blk_frozen BK192.out 3) | ((with_reducible refine gate_store (t:=95) (p:=7) rfl ?_);refine store_event (t:=95) (p:=7) (v:=?vo_w36) (w1:=((((w34.setCell ⟨gb192,0,none⟩ (.int .i64 ((rd_T95 l1 x10_1).f0))).setCell ⟨gb192,1,none⟩ (.int .i64 ((rd_T95 l1 x10_1).f1))).setCell ⟨gb192,2,none⟩ (.slice A191_2 ((rd_T95 l1 x10_1).f2).length c191_2)).setCell ⟨gb192,3,none⟩ (.slice A191_3 ((rd_T95 l1 x10_1).f3).length c191_3))) ?hg ?ho ?hn ?hr ?_;(case ho=>rfl);(case hg=>rfl);(case hn=>rfl);(case hr=>(go_simp;done));intro w36 hw;have n0_:Aside0 (Kd.V k26 26 w36 w.heap.size (fun k_=>(P0_ k_ ∨ w.heap.size ≤ k_) ∧ some k_ ≠ (u5:Value).ownBlock ∧ k_ ≠ gb192) u0 x0_1):=⟨(by rw [hw];exact (by exact Kd.V_mono (Kd.V_far (p:=⟨gb192,3,none⟩) (Kd.V_far (p:=⟨gb192,2,none⟩) (Kd.V_far (p:=⟨gb192,1,none⟩) (Kd.V_far (p:=⟨gb192,0,none⟩) (Kd.V_mono HO_0.out (fun k_ hk=>(⟨hk,hk.2⟩:_ ∧ k_ ≠ gb192))) (fun _ hk=>hk.2) (.int .i64 ((rd_T95 l1 x10_1).f0))) (fun _ hk=>hk.2) (.int .i64 ((rd_T95 l1 x10_1).f1))) (fun _ hk=>hk.2) (.slice A191_2 ((rd_T95 l1 x10_1).f2).length c191_2)) (fun _ hk=>hk.2) (.slice A191_3 ((rd_T95 l1 x10_1).f3).length c191_3)) (fun _ hk=>⟨hk.1.1.1,⟨hk.1.1.2,hk.1.2⟩⟩)))⟩;have n1_:Aside0 (Kd.N k26 26 w36 w.heap.size (fun k_=>(P0_ k_ ∨ w.heap.size ≤ k_) ∧ k_ ≠ gb192) u5 x5_1):=⟨(by rw [hw];exact (by exact Kd.N_mono (Kd.N_far (p:=⟨gb192,3,none⟩) (Kd.N_far (p:=⟨gb192,2,none⟩) (Kd.N_far (p:=⟨gb192,1,none⟩) (Kd.N_far (p:=⟨gb192,0,none⟩) (Kd.N_mono HO_5.out (fun k_ hk=>(⟨hk,hk.2⟩:_ ∧ k_ ≠ gb192))) (fun _ hk=>hk.2) (.int .i64 ((rd_T95 l1 x10_1).f0))) (fun _ hk=>hk.2) (.int .i64 ((rd_T95 l1 x10_1).f1))) (fun _ hk=>hk.2) (.slice A191_2 ((rd_T95 l1 x10_1).f2).length c191_2)) (fun _ hk=>hk.2) (.slice A191_3 ((rd_T95 l1 x10_1).f3).length c191_3)) (fun _ hk=>⟨hk.1.1,hk.1.2⟩)))⟩;have n2_:Aside0 (w36.heap[gb192]? = some (.cells #[.int .i64 ((rd_T95 l1 x10_1).f0),.int .i64 ((rd_T95 l1 x10_1).f1),.slice A191_2 ((rd_T95 l1 x10_1).f2).length c191_2,.slice A191_3 ((rd_T95 l1 x10_1).f3).length c191_3] 95 (0,0))):=⟨(by rw [hw];exact (by (with_reducible repeat (first | refine blk_drewN ?_ _ | refine blk_drew ?_ | refine blk_alloc ?_ _));refine blk_put (cs:=#[.int .i64 ((rd_T95 l1 x10_1).f0),.int .i64 ((rd_T95 l1 x10_1).f1),.slice A191_2 ((rd_T95 l1 x10_1).f2).length c191_2,.slice none 0 0]) ?_ 3 _ rfl;(with_reducible repeat (first | refine blk_drewN ?_ _ | refine blk_drew ?_ | refine blk_alloc ?_ _));refine blk_put (cs:=#[.int .i64 ((rd_T95 l1 x10_1).f0),.int .i64 ((rd_T95 l1 x10_1).f1),.slice none 0 0,.slice none 0 0]) ?_ 2 _ rfl;(with_reducible repeat (first | refine blk_drewN ?_ _ | refine blk_drew ?_ | refine blk_alloc ?_ _));refine blk_put (cs:=#[.int .i64 ((rd_T95 l1 x10_1).f0),.int .i64 0,.slice none 0 0,.slice none 0 0]) ?_ 1 _ rfl;(with_reducible repeat (first | refine blk_drewN ?_ _ | refine blk_drew ?_ | refine blk_alloc ?_ _));refine blk_put (cs:=#[.int .i64 0,.int .i64 0,.slice none 0 0,.slice none 0 0]) ?_ 0 _ rfl;exact BK192.out))⟩;have n3_:Aside0 (Below w.heap.size w w36):=⟨(by rw [hw];exact (by repeat ((with_reducible first | exact HB.out | refine below_set ?_ GE192.out))))⟩;clear hw;clear HO_0;clear HO_5;clear BK192;clear HB;have HO_0:=n0_;have HO_5:=n1_;have BK192:=n2_;have HB:=n3_;clear n0_ n1_ n2_ n3_;have hcz37_0:w36.cell? ⟨gb192,0,none⟩ = some (.int .i64 ((rd_T95 l1 x10_1).f0)):=(blk_cell BK192.out 0).trans rfl;have hcz37_1:w36.cell? ⟨gb192,1,none⟩ = some (.int .i64 ((rd_T95 l1 x10_1).f1)):=(blk_cell BK192.out 1).trans rfl;have hcz37_2:w36.cell? ⟨gb192,2,none⟩ = some (.slice A191_2 ((rd_T95 l1 x10_1).f2).length c191_2):=(blk_cell BK192.out 2).trans rfl;have hcz37_3:w36.cell? ⟨gb192,3,none⟩ = some (.slice A191_3 ((rd_T95 l1 x10_1).f3).length c191_3):=(blk_cell BK192.out 3).trans rfl;have hfz37_0:=blk_frozen BK192.out 0;have hfz37_1:=blk_frozen BK192.out 1;have hfz37_2:=blk_frozen BK192.out 2;have hfz37_3:=blk_frozen BK192.out 3;obtain ⟨Ao39,co39,eo39⟩:=Kd.V_slice HO_0.out;subst eo39;have q38:(((rd_T95 l1 x10_1).f1):Int) ≤ ((x0_1.length:Int):Int):=of_decide_eq_true (by assumption);obtain ⟨i038,hi038,_,hsz38,_⟩:=info_parts info26;have hroom38:x0_1.length ≤ co39:=(Kd.V_reads' HO_0.out).2.1;have hC38:Kd.F k26 _ _ Ao39 x0_1.length x0_1:=(Kd.V_at (base:=w.heap.size) HO_0.out).2.2;have q038:(0:Int) ≤ (((rd_T95 l1 x10_1).f1):Int):=of_decide_eq_true (by assumption);have hcut38:=cut_from (P:=Try.prog) 22 26 .i64 Try.underlying22 hi038 3 hsz38 Ao39 x0_1.length co39 ((rd_T95 l1 x10_1).f1) q038 q38;have hr38:=Kd.F_cut (m:=(((rd_T95 l1 x10_1).f1):Int).toNat) (c:=co39) hC38 (by omega) hroom38;obtain ⟨A38,hA38⟩:∃ A1,A1 = (if co39 = (((rd_T95 l1 x10_1).f1):Int).toNat then Ao39 else (Ao39:Option Addr).map (·.add ((((rd_T95 l1 x10_1).f1):Int).toNat * 3))):=⟨_,rfl⟩;obtain ⟨c38,hc38⟩:∃ c1,c1 = co39 - (((rd_T95 l1 x10_1).f1):Int).toNat:=⟨_,rfl⟩;have hy38:y215.length = x0_1.length - (((rd_T95 l1 x10_1).f1):Int).toNat:=(by rw [Ny215.out,List.length_drop] <;> omega);rw [show (x0_1).drop (((rd_T95 l1 x10_1).f1):Int).toNat = y215 from Ny215.out.symm] at hr38;replace hr38:Kd.F k26 _ _ A38 y215.length y215:=(by rw [hA38];exact hr38);rw [← hy38,← hA38,← hc38] at hcut38;have HO219:=Aside0.mk (show Kd.V k26 26 _ w.heap.size _ (.slice A38 y215.length c38) y215 from Kd.V_mk (by rw [hy38,hc38];exact Nat.sub_le_sub_right hroom38 _) hr38);have HC219:=Aside0.mk (show y215.length ≤ c38 from by rw [hy38,hc38];exact Nat.sub_le_sub_right hroom38 _);clear hr38 hC38 hroom38 hi038 hsz38 hc38;have KY38:=Aside0.mk hy38;have KA38:=Aside0.mk hA38;clear hy38 hA38;replace q38:=eq_true q38))
          go_roundg k1
          case measure=>have:=HK1.out;omega
          case rel=>exact ⟨(y215),(x5_1),(wrap64 (x10_1 + 1)),(by rfl),H',⟨by have:=HK1.out;omega⟩,⟨by exact Kd.V_mono HO219.out (fun _ hk=>⟨hk.1,hk.2.1⟩)⟩,⟨by exact Kd.N_mono HO_5.out (fun _ hk=>hk.1)⟩,⟨HB.out⟩⟩
         ·rw [if_neg c33] at H
          exact absurd H (by simp)
        ·rw [if_neg c32] at H
         exact absurd H (by simp)
     ·rw [if_neg c5] at H
      exact absurd H (by simp)
    ·rw [if_neg c4] at H
     exact absurd H (by simp)
   ·rw [if_neg c3] at H
    have c3b0:decide (x10_1 < (l1.length:Int)) = false:=decide_eq_false c3
    clear c3
    obtain rfl:=Option.some.inj H
    go_wp2
    go_ret
    exact ⟨_,by rfl,by exact HO_5.out,HB.out⟩
def delta_Apply.f (k:Nat) (l0:List (S26)) (l1:List (S95)):Option ((List (S26)) × Int):=(delta_fits.f k l0 l1).bind fun t220=>(if t220 = 0 then ((delta_Raw.f k l0 l1).bind fun t221=>(some (t221,0))) else (some (([]:List (S26)),t220)))
set_option maxHeartbeats 8000000 in
set_option maxRecDepth 100000 in
theorem delta_Apply.calls (k:Nat) (P0_:Nat → Prop) (A0:Option Addr) (c0:Nat) (l0:List (S26)) (A1:Option Addr) (c1:Nat) (l1:List (S95)) (r1:List (S26)) (r2:Int) (w:World) (hs0:Kd.V k26 26 w w.heap.size (fun k_=>P0_ k_) (.slice A0 l0.length c0) l0) (hr1:Kd.C k95 w A1 l1.length l1) (hc1:l1.length ≤ c1) (h:delta_Apply.f k l0 l1 = some (r1,r2)) :
 Calls Try.prog 22 #[.slice A0 l0.length c0,.slice A1 l1.length c1] w fun e w'=>∃ v0_:Value,e = .returned (.tuple #[v0_,.int .i64 r2]) ∧ Kd.N k26 26 w' w.heap.size (fun k_=>(P0_ k_ ∨ w.heap.size ≤ k_)) v0_ r1 ∧ Below w.heap.size w w':=by
 have HO0:=Aside0.mk (show Kd.V k26 26 w w.heap.size (fun k_=>(P0_ k_ ∨ w.heap.size ≤ k_)) (.slice A0 l0.length c0) l0 from Kd.V_mono hs0 (fun k_ hk=>.inl hk))
 have HR1:=Aside0.mk hr1
 have HC1:=Aside0.mk hc1
 clear hr1 hc1
 have HB:=Aside0.mk (Below.refl w.heap.size w)
 have H:((delta_fits.f k l0 l1).bind fun t220=>(if t220 = 0 then ((delta_Raw.f k l0 l1).bind fun t221=>(some (t221,0))) else (some (([]:List (S26)),t220)))) = some (r1,r2):=h
 clear h
 replace H:=Option.bind_eq_some_iff.mp H
 obtain ⟨t220,A30,H⟩:=H
 replace H:(if t220 = 0 then ((delta_Raw.f k l0 l1).bind fun t221=>(some (t221,0))) else (some (([]:List (S26)),t220))) = some (r1,r2):=H
 have A3:=Aside0.mk A30
 clear A30
 by_cases c4:t220 = 0
 ·rw [if_pos c4] at H
  have c4b0:(t220 == 0) = true:=beq_iff_eq.mpr c4
  have c4b1:(t220 != 0) = false:=bne_eq_false_iff_eq.mpr c4
  clear c4
  replace H:=Option.bind_eq_some_iff.mp H
  obtain ⟨t221,A50,H⟩:=H
  replace H:(some (t221,0)) = some (r1,r2):=H
  have A5:=Aside0.mk A50
  clear A50
  simp only [Option.some.injEq,Prod.mk.injEq] at H
  obtain ⟨rfl,rfl⟩:=H
  go_enter Try.func22,Try.ntmps22
  go_wp2_with (first | ((with_reducible refine gate_callee (f:=55) rfl ?_);refine goesL_ (some 9) rfl rfl Try.func55 (by kernel_rfl) rfl #[.slice A0 l0.length c0,.slice A1 l1.length c1] rfl (by (try simp only [List.map_toArray,List.map_cons,List.map_nil]);rfl) ?_;(with_reducible refine (delta_fits.calls k _ _ l0 _ _ l1 t220 _ ?side1 ?side2 ?side3 ?side4 A3.out).mono ?_);(case side1=>repeat (exact (Kd.V_reads' HO0.out).2.2));(case side2=>exact (Kd.V_reads' HO0.out).2.1);(case side3=>repeat (exact HR1.out));(case side4=>exact HC1.out);rintro e w6 ⟨rfl,hb⟩;refine ⟨_,rfl,?_⟩;have n0_:=Aside0.mk (Kd.V_below HO0.out hb);have n1_:=Aside0.mk (below_step (by with_reducible exact HB.out) hb);clear HO0;clear HB;have HO0:=n0_;have HB:=n1_;clear n0_ n1_;(try clear hb);(try clear hb2);(try clear hk);(try clear hi)) | ((with_reducible refine gate_callee (f:=56) rfl ?_);refine goesL_ (some 15) rfl rfl Try.func56 (by kernel_rfl) rfl #[.slice A0 l0.length c0,.slice A1 l1.length c1] rfl (by (try simp only [List.map_toArray,List.map_cons,List.map_nil]);rfl) ?_;(with_reducible refine (delta_Raw.calls k (fun k_=>(P0_ k_ ∨ w.heap.size ≤ k_)) _ _ l0 _ _ l1 t221 _ ?side1 ?side2 ?side3 A5.out).mono ?_);(case side1=>exact HO0.out);(case side2=>repeat (exact (Kd.C_below HR1.out HB.out)));(case side3=>exact HC1.out);rintro e w7 ⟨v222,rfl,ho0,hb⟩;refine ⟨_,rfl,?_⟩;have n0_:=Aside0.mk (Kd.V_elder' HO0.out (Kd.N_base ho0) hb);have n1_:=Aside0.mk (Kd.N_lower (Kd.N_mono (ok':=fun k_=>(P0_ k_ ∨ w.heap.size ≤ k_)) ho0 (fun k_ hk_=>Or.elim hk_ (fun hs_=>hs_) (fun hn_=>(.inr (Nat.le_trans (below_size (by with_reducible exact HB.out)) hn_))))) (below_size (by with_reducible exact HB.out)));have n2_:=Aside0.mk (below_step (by with_reducible exact HB.out) hb);clear HO0;clear HB;have HO0:=n0_;have HO223:=n1_;have HB:=n2_;clear n0_ n1_ n2_;(try clear hb);(try clear hb2);(try clear hk);(try clear hi);(try clear ho0)))
  go_ret2
  exact ⟨_,by rfl,by exact HO223.out,HB.out⟩
 ·rw [if_neg c4] at H
  have c4b0:(t220 == 0) = false:=beq_eq_false_iff_ne.mpr c4
  have c4b1:(t220 != 0) = true:=bne_iff_ne.mpr c4
  simp only [Option.some.injEq,Prod.mk.injEq] at H
  obtain ⟨rfl,rfl⟩:=H
  go_enter Try.func22,Try.ntmps22
  go_wp2_with (((with_reducible refine gate_callee (f:=55) rfl ?_);refine goesL_ (some 9) rfl rfl Try.func55 (by kernel_rfl) rfl #[.slice A0 l0.length c0,.slice A1 l1.length c1] rfl (by (try simp only [List.map_toArray,List.map_cons,List.map_nil]);rfl) ?_;(with_reducible refine (delta_fits.calls k _ _ l0 _ _ l1 t220 _ ?side1 ?side2 ?side3 ?side4 A3.out).mono ?_);(case side1=>repeat (exact (Kd.V_reads' HO0.out).2.2));(case side2=>exact (Kd.V_reads' HO0.out).2.1);(case side3=>repeat (exact HR1.out));(case side4=>exact HC1.out);rintro e w8 ⟨rfl,hb⟩;refine ⟨_,rfl,?_⟩;have n0_:=Aside0.mk (Kd.V_below HO0.out hb);have n1_:=Aside0.mk (below_step (by with_reducible exact HB.out) hb);clear HO0;clear HB;have HO0:=n0_;have HB:=n1_;clear n0_ n1_;(try clear hb);(try clear hb2);(try clear hk);(try clear hi)))
  go_ret2
  exact ⟨_,by rfl,by exact Kd.N_nil _ _ _ _ _,HB.out⟩
def chanceryref1_SameAttrs.l0:Nat → List (S91) → List (S91) → Int → Int → Option (Bool)
 | 0,_,_,_,_=>none
 | k + 1,x0,x1,x12,x13=>if x13 < x12 then (if 0 ≤ x13 then (if x13 < (x0.length:Int) then (if x13 < (x1.length:Int) then (if (!((((rd_T91 x0 x13).f0).toList) == (((rd_T91 x1 x13).f0).toList)) || (!((((rd_T91 x0 x13).f1).toList) == (((rd_T91 x1 x13).f1).toList)))) = true then (some false) else (chanceryref1_SameAttrs.l0 k x0 x1 x12 (wrap64 (x13 + 1)))) else (none)) else (none)) else (none)) else (some true)
def chanceryref1_SameAttrs.f (k:Nat) (l0:List (S91)) (l1:List (S91)):Option (Bool):=if (l0.length:Int) = (l1.length:Int) then (chanceryref1_SameAttrs.l0 k l0 l1 (l0.length:Int) 0) else (some false)
set_option maxHeartbeats 8000000 in
set_option maxRecDepth 100000 in
theorem chanceryref1_SameAttrs.calls (k:Nat) (A0:Option Addr) (c0:Nat) (l0:List (S91)) (A1:Option Addr) (c1:Nat) (l1:List (S91)) (r:Bool) (w:World) (hr0:Kd.C k91 w A0 l0.length l0) (hc0:l0.length ≤ c0) (hr1:Kd.C k91 w A1 l1.length l1) (hc1:l1.length ≤ c1) (h:chanceryref1_SameAttrs.f k l0 l1 = some r) :
 Calls Try.prog 65 #[.slice A0 l0.length c0,.slice A1 l1.length c1] w fun e w'=>e = .returned (.bool r) ∧ Drawn0 w w':=by
 have hu91:=Try.underlying91
 have HR0:=Aside0.mk hr0
 have HC0:=Aside0.mk hc0
 clear hr0 hc0
 have HR1:=Aside0.mk hr1
 have HC1:=Aside0.mk hc1
 clear hr1 hc1
 have H:(if (l0.length:Int) = (l1.length:Int) then (chanceryref1_SameAttrs.l0 k l0 l1 (l0.length:Int) 0) else (some false)) = some r:=h
 clear h
 by_cases c3:(l0.length:Int) = (l1.length:Int)
 ·rw [if_pos c3] at H
  have c3b0:((l0.length:Int) == (l1.length:Int)) = true:=beq_iff_eq.mpr c3
  have c3b1:((l0.length:Int) != (l1.length:Int)) = false:=bne_eq_false_iff_eq.mpr c3
  have c3b2:(l0.length == l1.length) = true:=by (simp at c3 ⊢;omega)
  clear c3
  have H':=Aside0.mk H
  clear H
  go_enter Try.func65,Try.ntmps65
  go_wp2
  repeat (go_quiet (fail);try go_wp2)
  go_loopg [13] k (fun kq v13 w'=>∃ (x13_1:Int),v13 = .int .i64 x13_1 ∧ Aside0 (chanceryref1_SameAttrs.l0 kq l0 l1 (l0.length:Int) x13_1 = some r) ∧ Aside0 (kq ≤ k) ∧ Drawn0 w w')
  case atStart=>exact ⟨(0),(by rfl),H',⟨Nat.le_refl _⟩,by repeat (exact Drawn0.refl _)⟩
  case round =>
   clear H'
   try clear c3b0
   try clear c3b1
   try clear c3b2
   obtain ⟨x13_1,rfl,HA,HK1,⟨m1,rfl⟩⟩:=hrel
   cases gk with
   | zero=>exact absurd HA.out (by simp [chanceryref1_SameAttrs.l0])
   | succ k1 =>
    have H:=HA.out
    clear HA
    simp only [chanceryref1_SameAttrs.l0] at H
    by_cases c4:x13_1 < (l0.length:Int)
    ·rw [if_pos c4] at H
     have c4b0:decide (x13_1 < (l0.length:Int)) = true:=decide_eq_true c4
     clear c4
     by_cases c5:0 ≤ x13_1
     ·rw [if_pos c5] at H
      have c5b0:decide (0 ≤ x13_1) = true:=decide_eq_true c5
      clear c5
      by_cases c6:x13_1 < (l0.length:Int)
      ·rw [if_pos c6] at H
       have c6b0:decide (x13_1 < (l0.length:Int)) = true:=decide_eq_true c6
       clear c6
       by_cases c7:x13_1 < (l1.length:Int)
       ·rw [if_pos c7] at H
        have c7b0:decide (x13_1 < (l1.length:Int)) = true:=decide_eq_true c7
        clear c7
        by_cases c8:(!((((rd_T91 l0 x13_1).f0).toList) == (((rd_T91 l1 x13_1).f0).toList)) || (!((((rd_T91 l0 x13_1).f1).toList) == (((rd_T91 l1 x13_1).f1).toList)))) = true
        ·rw [if_pos c8] at H
         have c8b0:(!((((rd_T91 l0 x13_1).f0).toList) == (((rd_T91 l1 x13_1).f0).toList)) || (!((((rd_T91 l0 x13_1).f1).toList) == (((rd_T91 l1 x13_1).f1).toList)))) = true:=c8
         clear c8
         obtain rfl:=Option.some.inj H
         have p224:0 ≤ (x13_1:Int):=of_decide_eq_true (by assumption)
         have q224:x13_1 < (l0.length:Int):=of_decide_eq_true (by assumption)
         obtain ⟨ad224,e224,hx224_0,hx224_1⟩:=at_T91 HR0.out x13_1 p224 q224
         cases e224
         replace p224:=eq_true p224
         replace q224:=eq_true q224
         have p225:0 ≤ (x13_1:Int):=of_decide_eq_true (by assumption)
         have q225:x13_1 < (l1.length:Int):=of_decide_eq_true (by assumption)
         obtain ⟨ad225,e225,hx225_0,hx225_1⟩:=at_T91 HR1.out x13_1 p225 q225
         cases e225
         replace p225:=eq_true p225
         replace q225:=eq_true q225
         go_wp2
         repeat (go_quiet (fail);try go_wp2)
         go_ret
         exact ⟨by rfl,by repeat (first | exact Drawn0.refl _ | apply Drawn0.step)⟩
        ·rw [if_neg c8] at H
         have c8b0:(!((((rd_T91 l0 x13_1).f0).toList) == (((rd_T91 l1 x13_1).f0).toList)) || (!((((rd_T91 l0 x13_1).f1).toList) == (((rd_T91 l1 x13_1).f1).toList)))) = false:=by simpa using c8
         clear c8
         have H':=Aside0.mk H
         clear H
         have p224:0 ≤ (x13_1:Int):=of_decide_eq_true (by assumption)
         have q224:x13_1 < (l0.length:Int):=of_decide_eq_true (by assumption)
         obtain ⟨ad224,e224,hx224_0,hx224_1⟩:=at_T91 HR0.out x13_1 p224 q224
         cases e224
         replace p224:=eq_true p224
         replace q224:=eq_true q224
         have p225:0 ≤ (x13_1:Int):=of_decide_eq_true (by assumption)
         have q225:x13_1 < (l1.length:Int):=of_decide_eq_true (by assumption)
         obtain ⟨ad225,e225,hx225_0,hx225_1⟩:=at_T91 HR1.out x13_1 p225 q225
         cases e225
         replace p225:=eq_true p225
         replace q225:=eq_true q225
         go_wp2
         repeat (go_quiet (fail);try go_wp2)
         go_roundg k1
         case measure=>have:=HK1.out;omega
         case rel=>exact ⟨(wrap64 (x13_1 + 1)),(by rfl),H',⟨by have:=HK1.out;omega⟩,by repeat (first | exact Drawn0.refl _ | apply Drawn0.step)⟩
       ·rw [if_neg c7] at H
        exact absurd H (by simp)
      ·rw [if_neg c6] at H
       exact absurd H (by simp)
     ·rw [if_neg c5] at H
      exact absurd H (by simp)
    ·rw [if_neg c4] at H
     have c4b0:decide (x13_1 < (l0.length:Int)) = false:=decide_eq_false c4
     clear c4
     obtain rfl:=Option.some.inj H
     go_wp2
     repeat (go_quiet (fail);try go_wp2)
     go_ret
     exact ⟨by rfl,by repeat (first | exact Drawn0.refl _ | apply Drawn0.step)⟩
 ·rw [if_neg c3] at H
  have c3b0:((l0.length:Int) == (l1.length:Int)) = false:=beq_eq_false_iff_ne.mpr c3
  have c3b1:((l0.length:Int) != (l1.length:Int)) = true:=bne_iff_ne.mpr c3
  have c3b2:(l0.length == l1.length) = false:=by (simp at c3 ⊢;omega)
  obtain rfl:=Option.some.inj H
  go_enter Try.func65,Try.ntmps65
  go_wp2
  repeat (go_quiet (fail);try go_wp2)
  go_ret
  exact ⟨by rfl,by repeat (exact Drawn0.refl _)⟩
def chanceryref1_SameElem.f (k:Nat) (a0_0:Int) (a0_1:Int) (l0_2:List (S91)) (a1_0:Int) (a1_1:Int) (l1_2:List (S91)):Option (Bool):=if a0_0 = a1_0 then (if a0_1 = a1_1 then ((chanceryref1_SameAttrs.f k l0_2 l1_2).bind fun t228=>(some t228)) else (some false)) else (some false)
set_option maxHeartbeats 8000000 in
set_option maxRecDepth 100000 in
theorem chanceryref1_SameElem.calls (k:Nat) (a0_0:Int) (a0_1:Int) (A0_2:Option Addr) (c0_2:Nat) (l0_2:List (S91)) (a1_0:Int) (a1_1:Int) (A1_2:Option Addr) (c1_2:Nat) (l1_2:List (S91)) (r:Bool) (w:World) (hr0_2:Kd.C k91 w A0_2 l0_2.length l0_2) (hc0_2:l0_2.length ≤ c0_2) (hr1_2:Kd.C k91 w A1_2 l1_2.length l1_2) (hc1_2:l1_2.length ≤ c1_2) (h:chanceryref1_SameElem.f k a0_0 a0_1 l0_2 a1_0 a1_1 l1_2 = some r) :
 Calls Try.prog 30 #[.agg #[.int .i64 a0_0,.int .i64 a0_1,.slice A0_2 l0_2.length c0_2],.agg #[.int .i64 a1_0,.int .i64 a1_1,.slice A1_2 l1_2.length c1_2]] w fun e w'=>e = .returned (.bool r) ∧ Below w.heap.size w w':=by
 have hu26:=Try.underlying26
 have HR0_2:=Aside0.mk hr0_2
 have HC0_2:=Aside0.mk hc0_2
 clear hr0_2 hc0_2
 have HR1_2:=Aside0.mk hr1_2
 have HC1_2:=Aside0.mk hc1_2
 clear hr1_2 hc1_2
 have HB:=Aside0.mk (Below.refl w.heap.size w)
 have H:(if a0_0 = a1_0 then (if a0_1 = a1_1 then ((chanceryref1_SameAttrs.f k l0_2 l1_2).bind fun t228=>(some t228)) else (some false)) else (some false)) = some r:=h
 clear h
 by_cases c3:a0_0 = a1_0
 ·rw [if_pos c3] at H
  have c3b0:(a0_0 == a1_0) = true:=beq_iff_eq.mpr c3
  have c3b1:(a0_0 != a1_0) = false:=bne_eq_false_iff_eq.mpr c3
  clear c3
  by_cases c4:a0_1 = a1_1
  ·rw [if_pos c4] at H
   have c4b0:(a0_1 == a1_1) = true:=beq_iff_eq.mpr c4
   have c4b1:(a0_1 != a1_1) = false:=bne_eq_false_iff_eq.mpr c4
   clear c4
   replace H:=Option.bind_eq_some_iff.mp H
   obtain ⟨t228,A50,H⟩:=H
   replace H:(some t228) = some r:=H
   have A5:=Aside0.mk A50
   clear A50
   obtain rfl:=Option.some.inj H
   go_enter Try.func30,Try.ntmps30
   go_wp2_with (first | ((with_reducible refine gate_dst (N:=2) rfl ?_);refine box_event ?hg (N:=2) ?hd (cs:=#[.int .i64 a0_0,.int .i64 a0_1,.slice A0_2 l0_2.length c0_2]) (t:=26) ?hr ?_;(case hd=>rfl);(case hg=>rfl);(case hr=>(go_simp;done));intro gb226 hg w6 hbox hb;have n0_:=Aside0.mk (below_step (by with_reducible exact HB.out) hb);have n1_:=Aside0.mk hbox;have n2_:=Aside0.mk ((by rw [hg];exact (below_size (by with_reducible exact HB.out)):w.heap.size ≤ gb226));have n3_:=Aside0.mk ((by rw [hg];exact (below_size (by with_reducible exact HB.out)):w.heap.size ≤ gb226));clear HB;have HB:=n0_;have BK226:=n1_;have GW226:=n2_;have GE226:=n3_;clear n0_ n1_ n2_ n3_;clear hb hbox hg) | ((with_reducible refine gate_dst (N:=3) rfl ?_);refine box_event ?hg (N:=3) ?hd (cs:=#[.int .i64 a1_0,.int .i64 a1_1,.slice A1_2 l1_2.length c1_2]) (t:=26) ?hr ?_;(case hd=>rfl);(case hg=>rfl);(case hr=>(go_simp;done));intro gb227 hg w7 hbox hb;have n0_:=Aside0.mk (blk_below BK226.out hb);have n1_:=Aside0.mk (below_step HB.out hb);have n2_:=Aside0.mk hbox;have n3_:=Aside0.mk ((by rw [hg];exact (below_size HB.out):w.heap.size ≤ gb227));have n4_:=Aside0.mk ((by rw [hg];exact (below_size HB.out):w.heap.size ≤ gb227));have n5_:=Aside0.mk ((by rw [hg];exact Nat.ne_of_lt (blk_lt BK226.out):gb226 ≠ gb227));have n6_:=Aside0.mk ((by rw [hg];exact Nat.ne_of_gt (blk_lt BK226.out):gb227 ≠ gb226));clear BK226;clear HB;have BK226:=n0_;have HB:=n1_;have BK227:=n2_;have GW227:=n3_;have GE227:=n4_;have NB226_227:=n5_;have NB227_226:=n6_;clear n0_ n1_ n2_ n3_ n4_ n5_ n6_;clear hb hbox hg;have hnb8:=NB226_227.out;have hnc8:=NB227_226.out;have hcz9_0:w7.cell? ⟨gb226,0,none⟩ = some (.int .i64 a0_0):=(blk_cell BK226.out 0).trans rfl;have hcz9_1:w7.cell? ⟨gb226,1,none⟩ = some (.int .i64 a0_1):=(blk_cell BK226.out 1).trans rfl;have hcz9_2:w7.cell? ⟨gb226,2,none⟩ = some (.slice A0_2 l0_2.length c0_2):=(blk_cell BK226.out 2).trans rfl;have hfz9_0:=blk_frozen BK226.out 0;have hfz9_1:=blk_frozen BK226.out 1;have hfz9_2:=blk_frozen BK226.out 2;have hcz10_0:w7.cell? ⟨gb227,0,none⟩ = some (.int .i64 a1_0):=(blk_cell BK227.out 0).trans rfl;have hcz10_1:w7.cell? ⟨gb227,1,none⟩ = some (.int .i64 a1_1):=(blk_cell BK227.out 1).trans rfl;have hcz10_2:w7.cell? ⟨gb227,2,none⟩ = some (.slice A1_2 l1_2.length c1_2):=(blk_cell BK227.out 2).trans rfl;have hfz10_0:=blk_frozen BK227.out 0;have hfz10_1:=blk_frozen BK227.out 1;have hfz10_2:=blk_frozen BK227.out 2) | (go_at_call 65;(with_reducible refine (chanceryref1_SameAttrs.calls k _ _ l0_2 _ _ l1_2 t228 _ ?side1 ?side2 ?side3 ?side4 A5.out).mono ?_);(case side1=>repeat (exact (Kd.C_below HR0_2.out HB.out)));(case side2=>exact HC0_2.out);(case side3=>repeat (exact (Kd.C_below HR1_2.out HB.out)));(case side4=>exact HC1_2.out);rintro e w' ⟨rfl,⟨nd,rfl⟩⟩))
   go_ret
   exact ⟨by rfl,by repeat ((with_reducible first | exact HB.out | apply pw_below_drewN))⟩
  ·rw [if_neg c4] at H
   have c4b0:(a0_1 == a1_1) = false:=beq_eq_false_iff_ne.mpr c4
   have c4b1:(a0_1 != a1_1) = true:=bne_iff_ne.mpr c4
   obtain rfl:=Option.some.inj H
   go_enter Try.func30,Try.ntmps30
   go_wp2_with (first | ((with_reducible refine gate_dst (N:=2) rfl ?_);refine box_event ?hg (N:=2) ?hd (cs:=#[.int .i64 a0_0,.int .i64 a0_1,.slice A0_2 l0_2.length c0_2]) (t:=26) ?hr ?_;(case hd=>rfl);(case hg=>rfl);(case hr=>(go_simp;done));intro gb226 hg w11 hbox hb;have n0_:=Aside0.mk (below_step (by with_reducible exact HB.out) hb);have n1_:=Aside0.mk hbox;have n2_:=Aside0.mk ((by rw [hg];exact (below_size (by with_reducible exact HB.out)):w.heap.size ≤ gb226));have n3_:=Aside0.mk ((by rw [hg];exact (below_size (by with_reducible exact HB.out)):w.heap.size ≤ gb226));clear HB;have HB:=n0_;have BK226:=n1_;have GW226:=n2_;have GE226:=n3_;clear n0_ n1_ n2_ n3_;clear hb hbox hg) | ((with_reducible refine gate_dst (N:=3) rfl ?_);refine box_event ?hg (N:=3) ?hd (cs:=#[.int .i64 a1_0,.int .i64 a1_1,.slice A1_2 l1_2.length c1_2]) (t:=26) ?hr ?_;(case hd=>rfl);(case hg=>rfl);(case hr=>(go_simp;done));intro gb227 hg w12 hbox hb;have n0_:=Aside0.mk (blk_below BK226.out hb);have n1_:=Aside0.mk (below_step HB.out hb);have n2_:=Aside0.mk hbox;have n3_:=Aside0.mk ((by rw [hg];exact (below_size HB.out):w.heap.size ≤ gb227));have n4_:=Aside0.mk ((by rw [hg];exact (below_size HB.out):w.heap.size ≤ gb227));have n5_:=Aside0.mk ((by rw [hg];exact Nat.ne_of_lt (blk_lt BK226.out):gb226 ≠ gb227));have n6_:=Aside0.mk ((by rw [hg];exact Nat.ne_of_gt (blk_lt BK226.out):gb227 ≠ gb226));clear BK226;clear HB;have BK226:=n0_;have HB:=n1_;have BK227:=n2_;have GW227:=n3_;have GE227:=n4_;have NB226_227:=n5_;have NB227_226:=n6_;clear n0_ n1_ n2_ n3_ n4_ n5_ n6_;clear hb hbox hg;have hnb13:=NB226_227.out;have hnc13:=NB227_226.out;have hcz14_0:w12.cell? ⟨gb226,0,none⟩ = some (.int .i64 a0_0):=(blk_cell BK226.out 0).trans rfl;have hcz14_1:w12.cell? ⟨gb226,1,none⟩ = some (.int .i64 a0_1):=(blk_cell BK226.out 1).trans rfl;have hcz14_2:w12.cell? ⟨gb226,2,none⟩ = some (.slice A0_2 l0_2.length c0_2):=(blk_cell BK226.out 2).trans rfl;have hfz14_0:=blk_frozen BK226.out 0;have hfz14_1:=blk_frozen BK226.out 1;have hfz14_2:=blk_frozen BK226.out 2;have hcz15_0:w12.cell? ⟨gb227,0,none⟩ = some (.int .i64 a1_0):=(blk_cell BK227.out 0).trans rfl;have hcz15_1:w12.cell? ⟨gb227,1,none⟩ = some (.int .i64 a1_1):=(blk_cell BK227.out 1).trans rfl;have hcz15_2:w12.cell? ⟨gb227,2,none⟩ = some (.slice A1_2 l1_2.length c1_2):=(blk_cell BK227.out 2).trans rfl;have hfz15_0:=blk_frozen BK227.out 0;have hfz15_1:=blk_frozen BK227.out 1;have hfz15_2:=blk_frozen BK227.out 2))
   go_ret
   exact ⟨by rfl,HB.out⟩
 ·rw [if_neg c3] at H
  have c3b0:(a0_0 == a1_0) = false:=beq_eq_false_iff_ne.mpr c3
  have c3b1:(a0_0 != a1_0) = true:=bne_iff_ne.mpr c3
  obtain rfl:=Option.some.inj H
  go_enter Try.func30,Try.ntmps30
  go_wp2_with (first | ((with_reducible refine gate_dst (N:=2) rfl ?_);refine box_event ?hg (N:=2) ?hd (cs:=#[.int .i64 a0_0,.int .i64 a0_1,.slice A0_2 l0_2.length c0_2]) (t:=26) ?hr ?_;(case hd=>rfl);(case hg=>rfl);(case hr=>(go_simp;done));intro gb226 hg w16 hbox hb;have n0_:=Aside0.mk (below_step (by with_reducible exact HB.out) hb);have n1_:=Aside0.mk hbox;have n2_:=Aside0.mk ((by rw [hg];exact (below_size (by with_reducible exact HB.out)):w.heap.size ≤ gb226));have n3_:=Aside0.mk ((by rw [hg];exact (below_size (by with_reducible exact HB.out)):w.heap.size ≤ gb226));clear HB;have HB:=n0_;have BK226:=n1_;have GW226:=n2_;have GE226:=n3_;clear n0_ n1_ n2_ n3_;clear hb hbox hg) | ((with_reducible refine gate_dst (N:=3) rfl ?_);refine box_event ?hg (N:=3) ?hd (cs:=#[.int .i64 a1_0,.int .i64 a1_1,.slice A1_2 l1_2.length c1_2]) (t:=26) ?hr ?_;(case hd=>rfl);(case hg=>rfl);(case hr=>(go_simp;done));intro gb227 hg w17 hbox hb;have n0_:=Aside0.mk (blk_below BK226.out hb);have n1_:=Aside0.mk (below_step HB.out hb);have n2_:=Aside0.mk hbox;have n3_:=Aside0.mk ((by rw [hg];exact (below_size HB.out):w.heap.size ≤ gb227));have n4_:=Aside0.mk ((by rw [hg];exact (below_size HB.out):w.heap.size ≤ gb227));have n5_:=Aside0.mk ((by rw [hg];exact Nat.ne_of_lt (blk_lt BK226.out):gb226 ≠ gb227));have n6_:=Aside0.mk ((by rw [hg];exact Nat.ne_of_gt (blk_lt BK226.out):gb227 ≠ gb226));clear BK226;clear HB;have BK226:=n0_;have HB:=n1_;have BK227:=n2_;have GW227:=n3_;have GE227:=n4_;have NB226_227:=n5_;have NB227_226:=n6_;clear n0_ n1_ n2_ n3_ n4_ n5_ n6_;clear hb hbox hg;have hnb18:=NB226_227.out;have hnc18:=NB227_226.out;have hcz19_0:w17.cell? ⟨gb226,0,none⟩ = some (.int .i64 a0_0):=(blk_cell BK226.out 0).trans rfl;have hcz19_1:w17.cell? ⟨gb226,1,none⟩ = some (.int .i64 a0_1):=(blk_cell BK226.out 1).trans rfl;have hcz19_2:w17.cell? ⟨gb226,2,none⟩ = some (.slice A0_2 l0_2.length c0_2):=(blk_cell BK226.out 2).trans rfl;have hfz19_0:=blk_frozen BK226.out 0;have hfz19_1:=blk_frozen BK226.out 1;have hfz19_2:=blk_frozen BK226.out 2;have hcz20_0:w17.cell? ⟨gb227,0,none⟩ = some (.int .i64 a1_0):=(blk_cell BK227.out 0).trans rfl;have hcz20_1:w17.cell? ⟨gb227,1,none⟩ = some (.int .i64 a1_1):=(blk_cell BK227.out 1).trans rfl;have hcz20_2:w17.cell? ⟨gb227,2,none⟩ = some (.slice A1_2 l1_2.length c1_2):=(blk_cell BK227.out 2).trans rfl;have hfz20_0:=blk_frozen BK227.out 0;have hfz20_1:=blk_frozen BK227.out 1;have hfz20_2:=blk_frozen BK227.out 2))
  go_ret
  exact ⟨by rfl,HB.out⟩
end Go.Proofs.Ytlcodfjlbhjkbaa.PDelta
end
section
namespace Go.Proofs.Ytlcodfjlbhjkbaa.PDelta
open Go.RowKit Go.Proofs.YtlcodfjlbhjkbaaW.PrintWords Go.Proofs.YtlcodfjlbhjkbaaW.PrintLast Go.Proofs.YtlcodfjlbhjkbaaW.PrintMore
attribute [local go_sem] max2_int min2_int max_two min_two max_three min_three max_four min_four
attribute [local go_sem high] Go.Proofs.Ytlcodfjlbhjkbaa.Ord.leq_str Go.Proofs.Ytlcodfjlbhjkbaa.Ord.gtr_str Go.Proofs.Ytlcodfjlbhjkbaa.Ord.geq_str
def chanceryref1_SameFlow.l0:Nat → List (S26) → List (S26) → Int → Int → Option (Bool)
 | 0,_,_,_,_=>none
 | k + 1,x0,x1,x12,x13=>if x13 < x12 then (if 0 ≤ x13 then (if x13 < (x0.length:Int) then (if x13 < (x1.length:Int) then ((chanceryref1_SameElem.f k ((rd_T26 x0 x13).f0) ((rd_T26 x0 x13).f1) ((rd_T26 x0 x13).f2) ((rd_T26 x1 x13).f0) ((rd_T26 x1 x13).f1) ((rd_T26 x1 x13).f2)).bind fun t231=>(if t231 = true then (chanceryref1_SameFlow.l0 k x0 x1 x12 (wrap64 (x13 + 1))) else (some false))) else (none)) else (none)) else (none)) else (some true)
def chanceryref1_SameFlow.f (k:Nat) (l0:List (S26)) (l1:List (S26)):Option (Bool):=if (l0.length:Int) = (l1.length:Int) then (chanceryref1_SameFlow.l0 k l0 l1 (l0.length:Int) 0) else (some false)
def chanceryref1_SameFlow.T6:Bool × List (List Nat × List Nat):=(true,[([],[]),([],[]),([0,1],[0,1]),([2],[2]),([],[]),([],[]),([4,5],[4,5]),([6],[6]),([3,7],[3,7]),([8],[8])])
def chanceryref1_SameFlow.B6:List Nat:=[0,0,3,7,0,0,48,112,255,511]
theorem chanceryref1_SameFlow.tab6:rtab .any (opsOf Try.f28 6) = chanceryref1_SameFlow.T6:=by kernel_rfl
theorem chanceryref1_SameFlow.bits6:waitsOk chanceryref1_SameFlow.T6.2 chanceryref1_SameFlow.B6 = true:=by kernel_rfl
set_option maxHeartbeats 8000000 in
set_option maxRecDepth 100000 in
theorem chanceryref1_SameFlow.calls (k:Nat) (A0:Option Addr) (c0:Nat) (l0:List (S26)) (A1:Option Addr) (c1:Nat) (l1:List (S26)) (r:Bool) (w:World) (hr0:Kd.C k26 w A0 l0.length l0) (hc0:l0.length ≤ c0) (hr1:Kd.C k26 w A1 l1.length l1) (hc1:l1.length ≤ c1) (h:chanceryref1_SameFlow.f k l0 l1 = some r) :
 Calls Try.prog 28 #[.slice A0 l0.length c0,.slice A1 l1.length c1] w fun e w'=>e = .returned (.bool r) ∧ Below w.heap.size w w':=by
 have hu26:=Try.underlying26
 have HR0:=Aside0.mk hr0
 have HC0:=Aside0.mk hc0
 clear hr0 hc0
 have HR1:=Aside0.mk hr1
 have HC1:=Aside0.mk hc1
 clear hr1 hc1
 have HB:=Aside0.mk (Below.refl w.heap.size w)
 have H:(if (l0.length:Int) = (l1.length:Int) then (chanceryref1_SameFlow.l0 k l0 l1 (l0.length:Int) 0) else (some false)) = some r:=h
 clear h
 by_cases c3:(l0.length:Int) = (l1.length:Int)
 ·rw [if_pos c3] at H
  have c3b0:((l0.length:Int) == (l1.length:Int)) = true:=beq_iff_eq.mpr c3
  have c3b1:((l0.length:Int) != (l1.length:Int)) = false:=bne_eq_false_iff_eq.mpr c3
  have c3b2:(l0.length == l1.length) = true:=by (simp at c3 ⊢;omega)
  clear c3
  have H':=Aside0.mk H
  clear H
  go_enter Try.func28,Try.ntmps28
  go_wp2
  go_loopg [13] k (fun kq v13 w'=>∃ (x13_1:Int),v13 = .int .i64 x13_1 ∧ Aside0 (chanceryref1_SameFlow.l0 kq l0 l1 (l0.length:Int) x13_1 = some r) ∧ Aside0 (kq ≤ k) ∧ Aside0 (Below w.heap.size w w'))
  case atStart=>exact ⟨(0),(by rfl),H',⟨Nat.le_refl _⟩,⟨HB.out⟩⟩
  case round =>
   clear H'
   try clear c3b0
   try clear c3b1
   try clear c3b2
   obtain ⟨x13_1,rfl,HA,HK1,HB⟩:=hrel
   cases gk with
   | zero=>exact absurd HA.out (by simp [chanceryref1_SameFlow.l0])
   | succ k1 =>
    have H:=HA.out
    clear HA
    simp only [chanceryref1_SameFlow.l0] at H
    by_cases c4:x13_1 < (l0.length:Int)
    ·rw [if_pos c4] at H
     have c4b0:decide (x13_1 < (l0.length:Int)) = true:=decide_eq_true c4
     clear c4
     by_cases c5:0 ≤ x13_1
     ·rw [if_pos c5] at H
      have c5b0:decide (0 ≤ x13_1) = true:=decide_eq_true c5
      clear c5
      by_cases c6:x13_1 < (l0.length:Int)
      ·rw [if_pos c6] at H
       have c6b0:decide (x13_1 < (l0.length:Int)) = true:=decide_eq_true c6
       clear c6
       by_cases c7:x13_1 < (l1.length:Int)
       ·rw [if_pos c7] at H
        have c7b0:decide (x13_1 < (l1.length:Int)) = true:=decide_eq_true c7
        clear c7
        replace H:=Option.bind_eq_some_iff.mp H
        obtain ⟨t231,A80,H⟩:=H
        replace H:(if t231 = true then (chanceryref1_SameFlow.l0 k1 l0 l1 (l0.length:Int) (wrap64 (x13_1 + 1))) else (some false)) = some r:=H
        have A8:=Aside0.mk A80
        clear A80
        by_cases c9:t231 = true
        ·subst c9
         have H1:(chanceryref1_SameFlow.l0 k1 l0 l1 (l0.length:Int) (wrap64 (x13_1 + 1))) = some r:=by rw [if_pos rfl] at H;exact H
         clear H
         have H:=H1
         clear H1
         have H':=Aside0.mk H
         clear H
         try go_wp2
         have n0_:=Aside0.mk (below_drew1 HB.out)
         clear HB
         have HB:=n0_
         clear n0_
         have p229:0 ≤ (x13_1:Int):=of_decide_eq_true (by assumption)
         have q229:x13_1 < (l0.length:Int):=of_decide_eq_true (by assumption)
         obtain ⟨ad229,A229_2,c229_2,e229,hx229_0,hx229_1,hx229_2,hl229_2,hi229_2⟩:=at_T26 HR0.out x13_1 p229 q229
         have hw229_2:=hx229_2
         have hw229_1:=hx229_1
         have hw229_0:=hx229_0
         cases e229
         replace hx229_0:=(HB.out.cell (World.block_lt_of_cell? w _ hx229_0)).trans hx229_0
         replace hx229_1:=(HB.out.cell (World.block_lt_of_cell? w _ hx229_1)).trans hx229_1
         replace hx229_2:=(HB.out.cell (World.block_lt_of_cell? w _ hx229_2)).trans hx229_2
         have HR229_2:=Aside0.mk hi229_2
         have HC229_2:=Aside0.mk hl229_2
         clear hi229_2 hl229_2
         replace p229:=eq_true p229
         replace q229:=eq_true q229
         have p230:0 ≤ (x13_1:Int):=of_decide_eq_true (by assumption)
         have q230:x13_1 < (l1.length:Int):=of_decide_eq_true (by assumption)
         obtain ⟨ad230,A230_2,c230_2,e230,hx230_0,hx230_1,hx230_2,hl230_2,hi230_2⟩:=at_T26 HR1.out x13_1 p230 q230
         have hw230_2:=hx230_2
         have hw230_1:=hx230_1
         have hw230_0:=hx230_0
         cases e230
         replace hx230_0:=(HB.out.cell (World.block_lt_of_cell? w _ hx230_0)).trans hx230_0
         replace hx230_1:=(HB.out.cell (World.block_lt_of_cell? w _ hx230_1)).trans hx230_1
         replace hx230_2:=(HB.out.cell (World.block_lt_of_cell? w _ hx230_2)).trans hx230_2
         have HR230_2:=Aside0.mk hi230_2
         have HC230_2:=Aside0.mk hl230_2
         clear hi230_2 hl230_2
         replace p230:=eq_true p230
         replace q230:=eq_true q230
         refine start_ (n:=10) (S:=fun w'=>w'.cell? (ad229.add ((x13_1).toNat * 3)) = some (.int .i64 ((rd_T26 l0 x13_1).f0)) ∧ w'.cell? ⟨(ad229.add ((x13_1).toNat * 3)).block,(ad229.add ((x13_1).toNat * 3)).off + 1,none⟩ = some (.int .i64 ((rd_T26 l0 x13_1).f1)) ∧ w'.cell? ⟨(ad229.add ((x13_1).toNat * 3)).block,(ad229.add ((x13_1).toNat * 3)).off + 2,none⟩ = some (.slice A229_2 ((rd_T26 l0 x13_1).f2).length c229_2) ∧ w'.cell? (ad230.add ((x13_1).toNat * 3)) = some (.int .i64 ((rd_T26 l1 x13_1).f0)) ∧ w'.cell? ⟨(ad230.add ((x13_1).toNat * 3)).block,(ad230.add ((x13_1).toNat * 3)).off + 1,none⟩ = some (.int .i64 ((rd_T26 l1 x13_1).f1)) ∧ w'.cell? ⟨(ad230.add ((x13_1).toNat * 3)).block,(ad230.add ((x13_1).toNat * 3)).off + 2,none⟩ = some (.slice A230_2 ((rd_T26 l1 x13_1).f2).length c230_2)) (ds:=[]) #[false,false,false,false,false,false,false,false,false,false] (by kernel_rfl) rfl rfl ⟨((HB.out.cell (World.block_lt_of_cell? w _ hw229_0)).trans hw229_0),((HB.out.cell (World.block_lt_of_cell? w _ hw229_1)).trans hw229_1),((HB.out.cell (World.block_lt_of_cell? w _ hw229_2)).trans hw229_2),((HB.out.cell (World.block_lt_of_cell? w _ hw230_0)).trans hw230_0),((HB.out.cell (World.block_lt_of_cell? w _ hw230_1)).trans hw230_1),((HB.out.cell (World.block_lt_of_cell? w _ hw230_2)).trans hw230_2)⟩ (fun hHeld=>?_);refine with_tabW chanceryref1_SameFlow.tab6 chanceryref1_SameFlow.bits6 (fun HT_ HW_=>?_)
         generalize wr.drew = w10 at HB HR229_2 HR230_2 hx229_0 hx229_1 hx229_2 hx230_0 hx230_1 hx230_2 hHeld ⊢
         refine pure_ (i:=0) (N:=some 16) (v:=?_) (a':=?_) (bm 1 10) rfl rfl (any_of HT_.out (by kernel_rfl)) (fun _ _ _ h=>h) (Or.inl ⟨by rfl,?_⟩) ?_ ?_
         rotate_left
         ·intro w'
          go_simp
          with_reducible rfl
         rotate_left
         ·simp only [Act.put,sA,sB,sC,i64_w,i32_w]
          rfl
         refine pure_ (i:=1) (N:=some 17) (v:=?_) (a':=?_) (bm 3 10) rfl rfl (any_of HT_.out (by kernel_rfl)) (fun _ _ _ h=>h) (Or.inl ⟨by rfl,?_⟩) ?_ ?_
         rotate_left
         ·intro w'
          go_simp
          with_reducible rfl
         rotate_left
         ·simp only [Act.put,sA,sB,sC,i64_w,i32_w]
          rfl
         refine pure_ (i:=2) (N:=some 18) (v:=?_) (a':=?_) (bm 7 10) rfl rfl (any_of HT_.out (by kernel_rfl)) (fun _ _ _ h=>h) (Or.inl ⟨by rfl,?_⟩) ?_ ?_
         rotate_left
         ·intro w'
          go_simp
          with_reducible rfl
         rotate_left
         ·simp only [Act.put,sA,sB,sC,i64_w,i32_w]
          rfl
         refine pure_ (i:=4) (N:=some 20) (v:=?_) (a':=?_) (bm 23 10) rfl rfl (any_of HT_.out (by kernel_rfl)) (fun _ _ _ h=>h) (Or.inl ⟨by rfl,?_⟩) ?_ ?_
         rotate_left
         ·intro w'
          go_simp
          with_reducible rfl
         rotate_left
         ·simp only [Act.put,sA,sB,sC,i64_w,i32_w]
          rfl
         refine pure_ (i:=5) (N:=some 21) (v:=?_) (a':=?_) (bm 55 10) rfl rfl (any_of HT_.out (by kernel_rfl)) (fun _ _ _ h=>h) (Or.inl ⟨by rfl,?_⟩) ?_ ?_
         rotate_left
         ·intro w'
          go_simp
          with_reducible rfl
         rotate_left
         ·simp only [Act.put,sA,sB,sC,i64_w,i32_w]
          rfl
         refine pure_ (i:=6) (N:=some 22) (v:=?_) (a':=?_) (bm 119 10) rfl rfl (any_of HT_.out (by kernel_rfl)) (fun _ _ _ h=>h) (Or.inl ⟨by rfl,?_⟩) ?_ ?_
         rotate_left
         ·intro w'
          go_simp
          with_reducible rfl
         rotate_left
         ·simp only [Act.put,sA,sB,sC,i64_w,i32_w]
          rfl
         refine take_ (i:=3) (N:=some 19) (v:=?_) (a':=?_) (bm 127 10) rfl rfl (take_ofW HT_.out HW_.out (by kernel_rfl)) (fun _ _ _ h=>h) (Or.inl ⟨by rfl,?_⟩) hHeld ?_ ?_
         rotate_left
         ·rintro w' ⟨s0,s1,s2,s3,s4,s5⟩
          go_simp
          with_reducible rfl
         rotate_left
         ·simp only [Act.put,sA,sB,sC,i64_w,i32_w]
          rfl
         refine take_ (i:=7) (N:=some 23) (v:=?_) (a':=?_) (bm 255 10) rfl rfl (take_ofW HT_.out HW_.out (by kernel_rfl)) (fun _ _ _ h=>h) (Or.inl ⟨by rfl,?_⟩) hHeld ?_ ?_
         rotate_left
         ·rintro w' ⟨s0,s1,s2,s3,s4,s5⟩
          go_simp
          with_reducible rfl
         rotate_left
         ·simp only [Act.put,sA,sB,sC,i64_w,i32_w]
          rfl
         refine one_ (i:=8) (N:=some 24) (bm 511 10) rfl rfl (one_of HT_.out (by kernel_rfl)) (by decide) (fun K hK=>?_)
         refine goes_ Try.func30 (by kernel_rfl) rfl #[.agg #[.int .i64 ((rd_T26 l0 x13_1).f0),.int .i64 ((rd_T26 l0 x13_1).f1),.slice A229_2 ((rd_T26 l0 x13_1).f2).length c229_2],.agg #[.int .i64 ((rd_T26 l1 x13_1).f0),.int .i64 ((rd_T26 l1 x13_1).f1),.slice A230_2 ((rd_T26 l1 x13_1).f2).length c230_2]] (by rfl) rfl rfl (by (try simp only [List.map_toArray,List.map_cons,List.map_nil]);rfl) ?_
         with_reducible refine (chanceryref1_SameElem.calls k1 ((rd_T26 l0 x13_1).f0) ((rd_T26 l0 x13_1).f1) _ _ ((rd_T26 l0 x13_1).f2) ((rd_T26 l1 x13_1).f0) ((rd_T26 l1 x13_1).f1) _ _ ((rd_T26 l1 x13_1).f2) true _ ?side1 ?side2 ?side3 ?side4 A8.out).mono ?_
         (case side1=>repeat (exact (Kd.C_below HR229_2.out HB.out)))
         (case side2=>exact HC229_2.out)
         (case side3=>repeat (exact (Kd.C_below HR230_2.out HB.out)))
         (case side4=>exact HC230_2.out)
         rintro e w11 ⟨rfl,hb⟩
         refine ⟨_,rfl,?_⟩
         have n0_:=Aside0.mk (below_step (by with_reducible exact HB.out) hb)
         clear HB
         have HB:=n0_
         clear n0_
         (try clear hb)
         (try clear hb2)
         (try clear hk)
         (try clear hi)
         refine hK.out _ _ ⟨((HB.out.cell (World.block_lt_of_cell? w _ hw229_0)).trans hw229_0),((HB.out.cell (World.block_lt_of_cell? w _ hw229_1)).trans hw229_1),((HB.out.cell (World.block_lt_of_cell? w _ hw229_2)).trans hw229_2),((HB.out.cell (World.block_lt_of_cell? w _ hw230_0)).trans hw230_0),((HB.out.cell (World.block_lt_of_cell? w _ hw230_1)).trans hw230_1),((HB.out.cell (World.block_lt_of_cell? w _ hw230_2)).trans hw230_2)⟩ (fun hHeld=>?_)
         clear hK K
         refine norm_ (a':=?_) ?_ ?_
         rotate_left
         ·show Act.put _ (some 24) _ = _
          simp only [Act.put,sA,sB,sC,i64_w,i32_w]
          rfl
         refine pure_ (i:=9) (N:=some 25) (v:=?_) (a':=?_) (bm 1023 10) rfl rfl (any_of HT_.out (by kernel_rfl)) (fun _ _ _ h=>h) (Or.inl ⟨by rfl,?_⟩) ?_ ?_
         rotate_left
         ·intro w'
          go_simp
          with_reducible rfl
         rotate_left
         ·simp only [Act.put,sA,sB,sC,i64_w,i32_w]
          rfl
         refine done_ (done_of HT_.out (by kernel_rfl)) ?_
         try go_wp2
         go_roundg k1
         case measure=>have:=HK1.out;omega
         case rel=>exact ⟨(wrap64 (x13_1 + 1)),(by rfl),H',⟨by have:=HK1.out;omega⟩,⟨HB.out⟩⟩
        ·replace c9:=Bool.eq_false_iff.mpr c9
         subst c9
         have H1:(some false) = some r:=by rw [if_neg (show ¬ (false = true) by decide)] at H;exact H
         clear H
         have H:=H1
         clear H1
         obtain rfl:=Option.some.inj H
         try go_wp2
         have n0_:=Aside0.mk (below_drew1 HB.out)
         clear HB
         have HB:=n0_
         clear n0_
         have p229:0 ≤ (x13_1:Int):=of_decide_eq_true (by assumption)
         have q229:x13_1 < (l0.length:Int):=of_decide_eq_true (by assumption)
         obtain ⟨ad229,A229_2,c229_2,e229,hx229_0,hx229_1,hx229_2,hl229_2,hi229_2⟩:=at_T26 HR0.out x13_1 p229 q229
         have hw229_2:=hx229_2
         have hw229_1:=hx229_1
         have hw229_0:=hx229_0
         cases e229
         replace hx229_0:=(HB.out.cell (World.block_lt_of_cell? w _ hx229_0)).trans hx229_0
         replace hx229_1:=(HB.out.cell (World.block_lt_of_cell? w _ hx229_1)).trans hx229_1
         replace hx229_2:=(HB.out.cell (World.block_lt_of_cell? w _ hx229_2)).trans hx229_2
         have HR229_2:=Aside0.mk hi229_2
         have HC229_2:=Aside0.mk hl229_2
         clear hi229_2 hl229_2
         replace p229:=eq_true p229
         replace q229:=eq_true q229
         have p230:0 ≤ (x13_1:Int):=of_decide_eq_true (by assumption)
         have q230:x13_1 < (l1.length:Int):=of_decide_eq_true (by assumption)
         obtain ⟨ad230,A230_2,c230_2,e230,hx230_0,hx230_1,hx230_2,hl230_2,hi230_2⟩:=at_T26 HR1.out x13_1 p230 q230
         have hw230_2:=hx230_2
         have hw230_1:=hx230_1
         have hw230_0:=hx230_0
         cases e230
         replace hx230_0:=(HB.out.cell (World.block_lt_of_cell? w _ hx230_0)).trans hx230_0
         replace hx230_1:=(HB.out.cell (World.block_lt_of_cell? w _ hx230_1)).trans hx230_1
         replace hx230_2:=(HB.out.cell (World.block_lt_of_cell? w _ hx230_2)).trans hx230_2
         have HR230_2:=Aside0.mk hi230_2
         have HC230_2:=Aside0.mk hl230_2
         clear hi230_2 hl230_2
         replace p230:=eq_true p230
         replace q230:=eq_true q230
         refine start_ (n:=10) (S:=fun w'=>w'.cell? (ad229.add ((x13_1).toNat * 3)) = some (.int .i64 ((rd_T26 l0 x13_1).f0)) ∧ w'.cell? ⟨(ad229.add ((x13_1).toNat * 3)).block,(ad229.add ((x13_1).toNat * 3)).off + 1,none⟩ = some (.int .i64 ((rd_T26 l0 x13_1).f1)) ∧ w'.cell? ⟨(ad229.add ((x13_1).toNat * 3)).block,(ad229.add ((x13_1).toNat * 3)).off + 2,none⟩ = some (.slice A229_2 ((rd_T26 l0 x13_1).f2).length c229_2) ∧ w'.cell? (ad230.add ((x13_1).toNat * 3)) = some (.int .i64 ((rd_T26 l1 x13_1).f0)) ∧ w'.cell? ⟨(ad230.add ((x13_1).toNat * 3)).block,(ad230.add ((x13_1).toNat * 3)).off + 1,none⟩ = some (.int .i64 ((rd_T26 l1 x13_1).f1)) ∧ w'.cell? ⟨(ad230.add ((x13_1).toNat * 3)).block,(ad230.add ((x13_1).toNat * 3)).off + 2,none⟩ = some (.slice A230_2 ((rd_T26 l1 x13_1).f2).length c230_2)) (ds:=[]) #[false,false,false,false,false,false,false,false,false,false] (by kernel_rfl) rfl rfl ⟨((HB.out.cell (World.block_lt_of_cell? w _ hw229_0)).trans hw229_0),((HB.out.cell (World.block_lt_of_cell? w _ hw229_1)).trans hw229_1),((HB.out.cell (World.block_lt_of_cell? w _ hw229_2)).trans hw229_2),((HB.out.cell (World.block_lt_of_cell? w _ hw230_0)).trans hw230_0),((HB.out.cell (World.block_lt_of_cell? w _ hw230_1)).trans hw230_1),((HB.out.cell (World.block_lt_of_cell? w _ hw230_2)).trans hw230_2)⟩ (fun hHeld=>?_);refine with_tabW chanceryref1_SameFlow.tab6 chanceryref1_SameFlow.bits6 (fun HT_ HW_=>?_)
         generalize wr.drew = w12 at HB HR229_2 HR230_2 hx229_0 hx229_1 hx229_2 hx230_0 hx230_1 hx230_2 hHeld ⊢
         refine pure_ (i:=0) (N:=some 16) (v:=?_) (a':=?_) (bm 1 10) rfl rfl (any_of HT_.out (by kernel_rfl)) (fun _ _ _ h=>h) (Or.inl ⟨by rfl,?_⟩) ?_ ?_
         rotate_left
         ·intro w'
          go_simp
          with_reducible rfl
         rotate_left
         ·simp only [Act.put,sA,sB,sC,i64_w,i32_w]
          rfl
         refine pure_ (i:=1) (N:=some 17) (v:=?_) (a':=?_) (bm 3 10) rfl rfl (any_of HT_.out (by kernel_rfl)) (fun _ _ _ h=>h) (Or.inl ⟨by rfl,?_⟩) ?_ ?_
         rotate_left
         ·intro w'
          go_simp
          with_reducible rfl
         rotate_left
         ·simp only [Act.put,sA,sB,sC,i64_w,i32_w]
          rfl
         refine pure_ (i:=2) (N:=some 18) (v:=?_) (a':=?_) (bm 7 10) rfl rfl (any_of HT_.out (by kernel_rfl)) (fun _ _ _ h=>h) (Or.inl ⟨by rfl,?_⟩) ?_ ?_
         rotate_left
         ·intro w'
          go_simp
          with_reducible rfl
         rotate_left
         ·simp only [Act.put,sA,sB,sC,i64_w,i32_w]
          rfl
         refine pure_ (i:=4) (N:=some 20) (v:=?_) (a':=?_) (bm 23 10) rfl rfl (any_of HT_.out (by kernel_rfl)) (fun _ _ _ h=>h) (Or.inl ⟨by rfl,?_⟩) ?_ ?_
         rotate_left
         ·intro w'
          go_simp
          with_reducible rfl
         rotate_left
         ·simp only [Act.put,sA,sB,sC,i64_w,i32_w]
          rfl
         refine pure_ (i:=5) (N:=some 21) (v:=?_) (a':=?_) (bm 55 10) rfl rfl (any_of HT_.out (by kernel_rfl)) (fun _ _ _ h=>h) (Or.inl ⟨by rfl,?_⟩) ?_ ?_
         rotate_left
         ·intro w'
          go_simp
          with_reducible rfl
         rotate_left
         ·simp only [Act.put,sA,sB,sC,i64_w,i32_w]
          rfl
         refine pure_ (i:=6) (N:=some 22) (v:=?_) (a':=?_) (bm 119 10) rfl rfl (any_of HT_.out (by kernel_rfl)) (fun _ _ _ h=>h) (Or.inl ⟨by rfl,?_⟩) ?_ ?_
         rotate_left
         ·intro w'
          go_simp
          with_reducible rfl
         rotate_left
         ·simp only [Act.put,sA,sB,sC,i64_w,i32_w]
          rfl
         refine take_ (i:=3) (N:=some 19) (v:=?_) (a':=?_) (bm 127 10) rfl rfl (take_ofW HT_.out HW_.out (by kernel_rfl)) (fun _ _ _ h=>h) (Or.inl ⟨by rfl,?_⟩) hHeld ?_ ?_
         rotate_left
         ·rintro w' ⟨s0,s1,s2,s3,s4,s5⟩
          go_simp
          with_reducible rfl
         rotate_left
         ·simp only [Act.put,sA,sB,sC,i64_w,i32_w]
          rfl
         refine take_ (i:=7) (N:=some 23) (v:=?_) (a':=?_) (bm 255 10) rfl rfl (take_ofW HT_.out HW_.out (by kernel_rfl)) (fun _ _ _ h=>h) (Or.inl ⟨by rfl,?_⟩) hHeld ?_ ?_
         rotate_left
         ·rintro w' ⟨s0,s1,s2,s3,s4,s5⟩
          go_simp
          with_reducible rfl
         rotate_left
         ·simp only [Act.put,sA,sB,sC,i64_w,i32_w]
          rfl
         refine one_ (i:=8) (N:=some 24) (bm 511 10) rfl rfl (one_of HT_.out (by kernel_rfl)) (by decide) (fun K hK=>?_)
         refine goes_ Try.func30 (by kernel_rfl) rfl #[.agg #[.int .i64 ((rd_T26 l0 x13_1).f0),.int .i64 ((rd_T26 l0 x13_1).f1),.slice A229_2 ((rd_T26 l0 x13_1).f2).length c229_2],.agg #[.int .i64 ((rd_T26 l1 x13_1).f0),.int .i64 ((rd_T26 l1 x13_1).f1),.slice A230_2 ((rd_T26 l1 x13_1).f2).length c230_2]] (by rfl) rfl rfl (by (try simp only [List.map_toArray,List.map_cons,List.map_nil]);rfl) ?_
         with_reducible refine (chanceryref1_SameElem.calls k1 ((rd_T26 l0 x13_1).f0) ((rd_T26 l0 x13_1).f1) _ _ ((rd_T26 l0 x13_1).f2) ((rd_T26 l1 x13_1).f0) ((rd_T26 l1 x13_1).f1) _ _ ((rd_T26 l1 x13_1).f2) false _ ?side1 ?side2 ?side3 ?side4 A8.out).mono ?_
         (case side1=>repeat (exact (Kd.C_below HR229_2.out HB.out)))
         (case side2=>exact HC229_2.out)
         (case side3=>repeat (exact (Kd.C_below HR230_2.out HB.out)))
         (case side4=>exact HC230_2.out)
         rintro e w13 ⟨rfl,hb⟩
         refine ⟨_,rfl,?_⟩
         have n0_:=Aside0.mk (below_step (by with_reducible exact HB.out) hb)
         clear HB
         have HB:=n0_
         clear n0_
         (try clear hb)
         (try clear hb2)
         (try clear hk)
         (try clear hi)
         refine hK.out _ _ ⟨((HB.out.cell (World.block_lt_of_cell? w _ hw229_0)).trans hw229_0),((HB.out.cell (World.block_lt_of_cell? w _ hw229_1)).trans hw229_1),((HB.out.cell (World.block_lt_of_cell? w _ hw229_2)).trans hw229_2),((HB.out.cell (World.block_lt_of_cell? w _ hw230_0)).trans hw230_0),((HB.out.cell (World.block_lt_of_cell? w _ hw230_1)).trans hw230_1),((HB.out.cell (World.block_lt_of_cell? w _ hw230_2)).trans hw230_2)⟩ (fun hHeld=>?_)
         clear hK K
         refine norm_ (a':=?_) ?_ ?_
         rotate_left
         ·show Act.put _ (some 24) _ = _
          simp only [Act.put,sA,sB,sC,i64_w,i32_w]
          rfl
         refine pure_ (i:=9) (N:=some 25) (v:=?_) (a':=?_) (bm 1023 10) rfl rfl (any_of HT_.out (by kernel_rfl)) (fun _ _ _ h=>h) (Or.inl ⟨by rfl,?_⟩) ?_ ?_
         rotate_left
         ·intro w'
          go_simp
          with_reducible rfl
         rotate_left
         ·simp only [Act.put,sA,sB,sC,i64_w,i32_w]
          rfl
         refine done_ (done_of HT_.out (by kernel_rfl)) ?_
         try go_wp2
         go_ret
         exact ⟨by rfl,HB.out⟩
       ·rw [if_neg c7] at H
        exact absurd H (by simp)
      ·rw [if_neg c6] at H
       exact absurd H (by simp)
     ·rw [if_neg c5] at H
      exact absurd H (by simp)
    ·rw [if_neg c4] at H
     have c4b0:decide (x13_1 < (l0.length:Int)) = false:=decide_eq_false c4
     clear c4
     obtain rfl:=Option.some.inj H
     go_wp2
     go_ret
     exact ⟨by rfl,HB.out⟩
 ·rw [if_neg c3] at H
  have c3b0:((l0.length:Int) == (l1.length:Int)) = false:=beq_eq_false_iff_ne.mpr c3
  have c3b1:((l0.length:Int) != (l1.length:Int)) = true:=bne_iff_ne.mpr c3
  have c3b2:(l0.length == l1.length) = false:=by (simp at c3 ⊢;omega)
  obtain rfl:=Option.some.inj H
  go_enter Try.func28,Try.ntmps28
  go_wp2
  go_ret
  exact ⟨by rfl,HB.out⟩
def chancerykeep1_letters.l0:Nat → ByteArray → List (S26) → Int → Int → Option ((List (S26)))
 | 0,_,_,_,_=>none
 | k + 1,x0,x3,x6,x7=>if x7 < x6 then (if 0 ≤ x7 then (if x7 < (x0.size:Int) then (if x3.length < 3518437208883 then (chancerykeep1_letters.l0 k x0 (x3 ++ [(⟨wrap64 (bt x0 x7),0,([]:List (S91))⟩:S26)]) x6 (wrap64 (x7 + 1))) else (none)) else (none)) else (none)) else (some x3)
def chancerykeep1_letters.f (k:Nat) (a0:ByteArray):Option ((List (S26))):=chancerykeep1_letters.l0 k a0 ([]:List (S26)) (a0.size:Int) 0
set_option maxHeartbeats 8000000 in
set_option maxRecDepth 100000 in
theorem chancerykeep1_letters.calls (k:Nat) (a0:ByteArray) (r:List (S26)) (w:World) (h:chancerykeep1_letters.f k a0 = some r) :
 Calls Try.prog 48 #[.string a0] w fun e w'=>∃ v0_:Value,e = .returned (v0_) ∧ Kd.S k26 26 w' w.heap.size (fun _=>True) v0_ r ∧ Below w.heap.size w w':=by
 have hu26:=Try.underlying26
 have HB:=Aside0.mk (Below.refl w.heap.size w)
 have H:(chancerykeep1_letters.l0 k a0 ([]:List (S26)) (a0.size:Int) 0) = some r:=h
 clear h
 have H':=Aside0.mk H
 clear H
 go_enter Try.func48,Try.ntmps48
 go_wp2
 go_loopg [3,7] k (fun kq v3 v7 w'=>∃ (x3_1:List (S26)) (x7_1:Int),v7 = .int .i64 x7_1 ∧ Aside0 (chancerykeep1_letters.l0 kq a0 x3_1 (a0.size:Int) x7_1 = some r) ∧ Aside0 (kq ≤ k) ∧ Aside0 (Kd.S k26 26 w' w.heap.size (fun _=>True) v3 x3_1) ∧ Aside0 (Below w.heap.size w w'))
 case atStart=>exact ⟨(([]:List (S26))),(0),(by rfl),H',⟨Nat.le_refl _⟩,⟨by exact Kd.S_nil _ _ _ _ _⟩,⟨HB.out⟩⟩
 case round =>
  clear H'
  obtain ⟨x3_1,x7_1,rfl,HA,HK1,HO_3,HB⟩:=hrel
  cases gk with
  | zero=>exact absurd HA.out (by simp [chancerykeep1_letters.l0])
  | succ k1 =>
   have H:=HA.out
   clear HA
   simp only [chancerykeep1_letters.l0] at H
   by_cases c2:x7_1 < (a0.size:Int)
   ·rw [if_pos c2] at H
    have c2b0:decide (x7_1 < (a0.size:Int)) = true:=decide_eq_true c2
    clear c2
    by_cases c3:0 ≤ x7_1
    ·rw [if_pos c3] at H
     have c3b0:decide (0 ≤ x7_1) = true:=decide_eq_true c3
     clear c3
     by_cases c4:x7_1 < (a0.size:Int)
     ·rw [if_pos c4] at H
      have c4b0:decide (x7_1 < (a0.size:Int)) = true:=decide_eq_true c4
      clear c4
      by_cases c6:x3_1.length < 3518437208883
      ·rw [if_pos c6] at H
       have LMc6:=Aside0.mk c6
       clear c6
       obtain ⟨y232,hy232⟩:∃ y_:List (S26),y_ = (x3_1 ++ [(⟨wrap64 (bt a0 x7_1),0,([]:List (S91))⟩:S26)]):=⟨_,rfl⟩
       replace H:(chancerykeep1_letters.l0 k1 a0 y232 (a0.size:Int) (wrap64 (x7_1 + 1))) = some r:=by (rw [hy232];with_reducible exact H)
       have Ny232:=Aside0.mk hy232
       clear hy232
       have H':=Aside0.mk H
       clear H
       have p5:0 ≤ (x7_1:Int):=of_decide_eq_true (by assumption)
       have q5:x7_1 < (a0.size:Int):=of_decide_eq_true (by assumption)
       have hx5:=bt_at a0 x7_1
       replace p5:=eq_true p5
       replace q5:=eq_true q5
       go_wp2_with (((with_reducible refine gate_builtin (b:=.append) (xs:=#[.tmp 10,.tmp 16]) rfl ?_);at_builtin;refine Kd.S_append k26 (w0:=w) w.heap.size rfl (.tmp 10) (.tmp 16) 22 26 (.agg #[(.int .i64 0),(.int .i64 0),(.slice none 0 0)]) 40 rfl Try.underlying22 info26 rfl (by decide) (by omega) u3 x3_1 (⟨wrap64 (bt a0 x7_1),0,([]:List (S91))⟩:S26) [.int .i64 (wrap64 (bt a0 x7_1)),.int .i64 0,.slice none 0 0] (fun _=>True) (fun _=>False) rfl rfl ?aP (fun k_ hk_=>hk_.elim) ?aF ?aO ?aB ?aS ?aL ?_;(case aP=>exact k26_mkM _ _ _ (⟨wrap64 (bt a0 x7_1),0,([]:List (S91))⟩:S26) (Kd.R_nil _ _ _ _ _));(case aB=>exact (by with_reducible exact HB.out));(case aF=>exact (fun _ _=>trivial));(case aO=>exact (by exact Kd.S_mono HO_3.out (fun k_ hk=>⟨trivial,fun e_=>e_⟩)));(case aS=>exact (below_size (by with_reducible exact HB.out)));(case aL=>have:=LMc6.out;omega);intro v233 w7 ho hb hg hat;rw [← Ny232.out] at ho;have n0_:=Aside0.mk hb;have n1_:=Aside0.mk ho;clear HB;clear HO_3;have HB:=n0_;have HO234:=n1_;clear n0_ n1_;clear ho hb hg hat))
       go_roundg k1
       case measure=>have:=HK1.out;omega
       case rel=>exact ⟨(y232),(wrap64 (x7_1 + 1)),(by rfl),H',⟨by have:=HK1.out;omega⟩,⟨by exact HO234.out⟩,⟨HB.out⟩⟩
      ·rw [if_neg c6] at H
       exact absurd H (by simp)
     ·rw [if_neg c4] at H
      exact absurd H (by simp)
    ·rw [if_neg c3] at H
     exact absurd H (by simp)
   ·rw [if_neg c2] at H
    have c2b0:decide (x7_1 < (a0.size:Int)) = false:=decide_eq_false c2
    clear c2
    obtain rfl:=Option.some.inj H
    go_wp2
    go_ret
    exact ⟨_,by rfl,by exact HO_3.out,HB.out⟩
def chanceryref1_Has.l0:Nat → List (S91) → ByteArray → Int → Int → Option (Bool)
 | 0,_,_,_,_=>none
 | k + 1,x0,x1,x7,x8=>if x8 < x7 then (if 0 ≤ x8 then (if x8 < (x0.length:Int) then (if ((rd_T91 x0 x8).f0).toList = x1.toList then (some true) else (chanceryref1_Has.l0 k x0 x1 x7 (wrap64 (x8 + 1)))) else (none)) else (none)) else (some false)
def chanceryref1_Has.f (k:Nat) (l0:List (S91)) (a1:ByteArray):Option (Bool):=chanceryref1_Has.l0 k l0 a1 (l0.length:Int) 0
set_option maxHeartbeats 8000000 in
set_option maxRecDepth 100000 in
theorem chanceryref1_Has.calls (k:Nat) (A0:Option Addr) (c0:Nat) (l0:List (S91)) (a1:ByteArray) (r:Bool) (w:World) (hr0:Kd.C k91 w A0 l0.length l0) (hc0:l0.length ≤ c0) (h:chanceryref1_Has.f k l0 a1 = some r) :
 Calls Try.prog 14 #[.slice A0 l0.length c0,.string a1] w fun e w'=>e = .returned (.bool r) ∧ Drawn0 w w':=by
 have HR0:=Aside0.mk hr0
 have HC0:=Aside0.mk hc0
 clear hr0 hc0
 have H:(chanceryref1_Has.l0 k l0 a1 (l0.length:Int) 0) = some r:=h
 clear h
 have H':=Aside0.mk H
 clear H
 go_enter Try.func14,Try.ntmps14
 go_wp2
 go_loopg [8] k (fun kq v8 w'=>∃ (x8_1:Int),v8 = .int .i64 x8_1 ∧ Aside0 (chanceryref1_Has.l0 kq l0 a1 (l0.length:Int) x8_1 = some r) ∧ Aside0 (kq ≤ k) ∧ Drawn0 w w')
 case atStart=>exact ⟨(0),(by rfl),H',⟨Nat.le_refl _⟩,by repeat (exact Drawn0.refl _)⟩
 case round =>
  clear H'
  obtain ⟨x8_1,rfl,HA,HK1,⟨m1,rfl⟩⟩:=hrel
  cases gk with
  | zero=>exact absurd HA.out (by simp [chanceryref1_Has.l0])
  | succ k1 =>
   have H:=HA.out
   clear HA
   simp only [chanceryref1_Has.l0] at H
   by_cases c3:x8_1 < (l0.length:Int)
   ·rw [if_pos c3] at H
    have c3b0:decide (x8_1 < (l0.length:Int)) = true:=decide_eq_true c3
    clear c3
    by_cases c4:0 ≤ x8_1
    ·rw [if_pos c4] at H
     have c4b0:decide (0 ≤ x8_1) = true:=decide_eq_true c4
     clear c4
     by_cases c5:x8_1 < (l0.length:Int)
     ·rw [if_pos c5] at H
      have c5b0:decide (x8_1 < (l0.length:Int)) = true:=decide_eq_true c5
      clear c5
      by_cases c6:((rd_T91 l0 x8_1).f0).toList = a1.toList
      ·rw [if_pos c6] at H
       have c6b0:(((rd_T91 l0 x8_1).f0).toList == a1.toList) = true:=beq_iff_eq.mpr c6
       have c6b1:(((rd_T91 l0 x8_1).f0).toList != a1.toList) = false:=bne_eq_false_iff_eq.mpr c6
       clear c6
       obtain rfl:=Option.some.inj H
       have p252:0 ≤ (x8_1:Int):=of_decide_eq_true (by assumption)
       have q252:x8_1 < (l0.length:Int):=of_decide_eq_true (by assumption)
       obtain ⟨ad252,e252,hx252_0,hx252_1⟩:=at_T91 HR0.out x8_1 p252 q252
       cases e252
       replace p252:=eq_true p252
       replace q252:=eq_true q252
       go_wp2
       go_ret
       exact ⟨by rfl,by repeat (first | exact Drawn0.refl _ | apply Drawn0.step)⟩
      ·rw [if_neg c6] at H
       have c6b0:(((rd_T91 l0 x8_1).f0).toList == a1.toList) = false:=beq_eq_false_iff_ne.mpr c6
       have c6b1:(((rd_T91 l0 x8_1).f0).toList != a1.toList) = true:=bne_iff_ne.mpr c6
       have H':=Aside0.mk H
       clear H
       have p252:0 ≤ (x8_1:Int):=of_decide_eq_true (by assumption)
       have q252:x8_1 < (l0.length:Int):=of_decide_eq_true (by assumption)
       obtain ⟨ad252,e252,hx252_0,hx252_1⟩:=at_T91 HR0.out x8_1 p252 q252
       cases e252
       replace p252:=eq_true p252
       replace q252:=eq_true q252
       go_wp2
       go_roundg k1
       case measure=>have:=HK1.out;omega
       case rel=>exact ⟨(wrap64 (x8_1 + 1)),(by rfl),H',⟨by have:=HK1.out;omega⟩,by repeat (first | exact Drawn0.refl _ | apply Drawn0.step)⟩
     ·rw [if_neg c5] at H
      exact absurd H (by simp)
    ·rw [if_neg c4] at H
     exact absurd H (by simp)
   ·rw [if_neg c3] at H
    have c3b0:decide (x8_1 < (l0.length:Int)) = false:=decide_eq_false c3
    clear c3
    obtain rfl:=Option.some.inj H
    go_wp2
    go_ret
    exact ⟨by rfl,by repeat (first | exact Drawn0.refl _ | apply Drawn0.step)⟩
def flow_Check.l0:Nat → List (S26) → Bool → List (S26) → Int → Int → Option (Int)
 | 0,_,_,_,_,_=>none
 | k + 1,x0,x1,x8,x9,x10=>if x10 < x9 then (if 0 ≤ x10 then (if x10 < (x8.length:Int) then ((flow_elem.f k ((rd_T26 x8 x10).f0) ((rd_T26 x8 x10).f1) ((rd_T26 x8 x10).f2)).bind fun t256=>(if t256 = 0 then (if x1 = true then (flow_Check.l0 k x0 x1 x8 x9 (wrap64 (x10 + 1))) else (if ((rd_T26 x8 x10).f1) = 0 then (some 8) else (flow_Check.l0 k x0 x1 x8 x9 (wrap64 (x10 + 1))))) else (some t256))) else (none)) else (none)) else (if x1 = true then (if (x0.length:Int) = 0 then (some 11) else (if 0 ≤ (wrap64 ((x0.length:Int) - 1)) then (if (wrap64 ((x0.length:Int) - 1)) < (x0.length:Int) then (if ((rd_T26 x0 (wrap64 ((x0.length:Int) - 1))).f0) = 10 then (some 0) else (some 11)) else (none)) else (none))) else (some 0))
def flow_Check.f (k:Nat) (l0:List (S26)) (a1:Bool):Option (Int):=flow_Check.l0 k l0 a1 l0 (l0.length:Int) 0
set_option maxHeartbeats 8000000 in
set_option maxRecDepth 100000 in
theorem flow_Check.calls (k:Nat) (A0:Option Addr) (c0:Nat) (l0:List (S26)) (a1:Bool) (r:Int) (w:World) (hr0:Kd.C k26 w A0 l0.length l0) (hc0:l0.length ≤ c0) (h:flow_Check.f k l0 a1 = some r) :
 Calls Try.prog 83 #[.slice A0 l0.length c0,.bool a1] w fun e w'=>e = .returned (.int .i64 r) ∧ Below w.heap.size w w':=by
 have hu26:=Try.underlying26
 have HR0:=Aside0.mk hr0
 have HC0:=Aside0.mk hc0
 clear hr0 hc0
 have HB:=Aside0.mk (Below.refl w.heap.size w)
 have H:(flow_Check.l0 k l0 a1 l0 (l0.length:Int) 0) = some r:=h
 clear h
 have H':=Aside0.mk H
 clear H
 go_enter Try.func83,Try.ntmps83
 go_wp2
 go_loopg [10] k (fun kq v10 w'=>∃ (x10_1:Int),v10 = .int .i64 x10_1 ∧ Aside0 (flow_Check.l0 kq l0 a1 l0 (l0.length:Int) x10_1 = some r) ∧ Aside0 (kq ≤ k) ∧ Aside0 (Below w.heap.size w w'))
 case atStart=>exact ⟨(0),(by rfl),H',⟨Nat.le_refl _⟩,⟨HB.out⟩⟩
 case round =>
  clear H'
  obtain ⟨x10_1,rfl,HA,HK1,HB⟩:=hrel
  cases gk with
  | zero=>exact absurd HA.out (by simp [flow_Check.l0])
  | succ k1 =>
   have H:=HA.out
   clear HA
   simp only [flow_Check.l0] at H
   by_cases c3:x10_1 < (l0.length:Int)
   ·rw [if_pos c3] at H
    have c3b0:decide (x10_1 < (l0.length:Int)) = true:=decide_eq_true c3
    clear c3
    by_cases c4:0 ≤ x10_1
    ·rw [if_pos c4] at H
     have c4b0:decide (0 ≤ x10_1) = true:=decide_eq_true c4
     clear c4
     by_cases c5:x10_1 < (l0.length:Int)
     ·rw [if_pos c5] at H
      have c5b0:decide (x10_1 < (l0.length:Int)) = true:=decide_eq_true c5
      clear c5
      replace H:=Option.bind_eq_some_iff.mp H
      obtain ⟨t256,A60,H⟩:=H
      replace H:(if t256 = 0 then (if a1 = true then (flow_Check.l0 k1 l0 a1 l0 (l0.length:Int) (wrap64 (x10_1 + 1))) else (if ((rd_T26 l0 x10_1).f1) = 0 then (some 8) else (flow_Check.l0 k1 l0 a1 l0 (l0.length:Int) (wrap64 (x10_1 + 1))))) else (some t256)) = some r:=H
      have A6:=Aside0.mk A60
      clear A60
      by_cases c7:t256 = 0
      ·rw [if_pos c7] at H
       have c7b0:(t256 == 0) = true:=beq_iff_eq.mpr c7
       have c7b1:(t256 != 0) = false:=bne_eq_false_iff_eq.mpr c7
       clear c7
       by_cases c8:a1 = true
       ·subst c8
        have H1:(flow_Check.l0 k1 l0 true l0 (l0.length:Int) (wrap64 (x10_1 + 1))) = some r:=by rw [if_pos rfl] at H;exact H
        clear H
        have H:=H1
        clear H1
        have H':=Aside0.mk H
        clear H
        have p254:0 ≤ (x10_1:Int):=of_decide_eq_true (by assumption)
        have q254:x10_1 < (l0.length:Int):=of_decide_eq_true (by assumption)
        obtain ⟨ad254,A254_2,c254_2,e254,hx254_0,hx254_1,hx254_2,hl254_2,hi254_2⟩:=at_T26 HR0.out x10_1 p254 q254
        cases e254
        replace hx254_0:=(HB.out.cell (World.block_lt_of_cell? w _ hx254_0)).trans hx254_0
        replace hx254_1:=(HB.out.cell (World.block_lt_of_cell? w _ hx254_1)).trans hx254_1
        replace hx254_2:=(HB.out.cell (World.block_lt_of_cell? w _ hx254_2)).trans hx254_2
        have HR254_2:=Aside0.mk hi254_2
        have HC254_2:=Aside0.mk hl254_2
        clear hi254_2 hl254_2
        replace p254:=eq_true p254
        replace q254:=eq_true q254
        go_wp2_with (first | ((with_reducible refine gate_dst (N:=6) rfl ?_);(try (refine gate_guard (by rfl) ?_;dsimp only));refine box_event ?hg (N:=6) ?hd (cs:=#[.int .i64 0,.int .i64 0,.slice none 0 0]) (t:=26) ?hr ?_;(case hd=>rfl);(case hg=>rfl);(case hr=>(go_simp;done));intro gb255 hg w9 hbox hb;have n0_:=Aside0.mk (below_step (by with_reducible exact HB.out) hb);have n1_:=Aside0.mk hbox;have n2_:=Aside0.mk ((by rw [hg];exact (below_size (by with_reducible exact HB.out)):w.heap.size ≤ gb255));have n3_:=Aside0.mk ((by rw [hg];exact (below_size (by with_reducible exact HB.out)):w.heap.size ≤ gb255));clear HB;have HB:=n0_;have BK255:=n1_;have GW255:=n2_;have GE255:=n3_;clear n0_ n1_ n2_ n3_;clear hb hbox hg;have hcz10_0:w9.cell? ⟨gb255,0,none⟩ = some (.int .i64 0):=(blk_cell BK255.out 0).trans rfl;have hcz10_1:w9.cell? ⟨gb255,1,none⟩ = some (.int .i64 0):=(blk_cell BK255.out 1).trans rfl;have hcz10_2:w9.cell? ⟨gb255,2,none⟩ = some (.slice none 0 0):=(blk_cell BK255.out 2).trans rfl;have hfz10_0:=blk_frozen BK255.out 0;have hfz10_1:=blk_frozen BK255.out 1;have hfz10_2:=blk_frozen BK255.out 2) | ((with_reducible refine gate_callee (f:=93) rfl ?_);refine goesL_ (some 15) rfl rfl Try.func93 (by kernel_rfl) rfl #[.agg #[.int .i64 ((rd_T26 l0 x10_1).f0),.int .i64 ((rd_T26 l0 x10_1).f1),.slice A254_2 ((rd_T26 l0 x10_1).f2).length c254_2]] rfl (by (try simp only [List.map_toArray,List.map_cons,List.map_nil]);rfl) ?_;(with_reducible refine (flow_elem.calls k1 ((rd_T26 l0 x10_1).f0) ((rd_T26 l0 x10_1).f1) _ _ ((rd_T26 l0 x10_1).f2) t256 _ ?side1 ?side2 A6.out).mono ?_);(case side1=>exact Kd.C_below HR254_2.out (by repeat ((with_reducible first | exact HB.out | refine below_set ?_ GE255.out))));(case side2=>exact HC254_2.out);rintro e w11 ⟨rfl,hb⟩;refine ⟨_,rfl,?_⟩;have n0_:=Aside0.mk (blk_below (g:=gb255) (o:=.cells #[.int .i64 ((rd_T26 l0 x10_1).f0),.int .i64 ((rd_T26 l0 x10_1).f1),.slice A254_2 ((rd_T26 l0 x10_1).f2).length c254_2] 26 (0,0)) (by (with_reducible repeat (first | refine blk_drewN ?_ _ | refine blk_drew ?_ | refine blk_alloc ?_ _));refine blk_put (cs:=#[.int .i64 ((rd_T26 l0 x10_1).f0),.int .i64 ((rd_T26 l0 x10_1).f1),.slice none 0 0]) ?_ 2 _ rfl;(with_reducible repeat (first | refine blk_drewN ?_ _ | refine blk_drew ?_ | refine blk_alloc ?_ _));refine blk_put (cs:=#[.int .i64 ((rd_T26 l0 x10_1).f0),.int .i64 0,.slice none 0 0]) ?_ 1 _ rfl;(with_reducible repeat (first | refine blk_drewN ?_ _ | refine blk_drew ?_ | refine blk_alloc ?_ _));refine blk_put (cs:=#[.int .i64 0,.int .i64 0,.slice none 0 0]) ?_ 0 _ rfl;exact BK255.out) hb);have n1_:=Aside0.mk (below_step (by repeat ((with_reducible first | exact HB.out | refine below_set ?_ GE255.out))) hb);clear BK255;clear HB;have BK255:=n0_;have HB:=n1_;clear n0_ n1_;(try clear hb);(try clear hb2);(try clear hk);(try clear hi)))
        go_roundg k1
        case measure=>have:=HK1.out;omega
        case rel=>exact ⟨(wrap64 (x10_1 + 1)),(by rfl),H',⟨by have:=HK1.out;omega⟩,⟨HB.out⟩⟩
       ·replace c8:=Bool.eq_false_iff.mpr c8
        subst c8
        have H1:(if ((rd_T26 l0 x10_1).f1) = 0 then (some 8) else (flow_Check.l0 k1 l0 false l0 (l0.length:Int) (wrap64 (x10_1 + 1)))) = some r:=by rw [if_neg (show ¬ (false = true) by decide)] at H;exact H
        clear H
        have H:=H1
        clear H1
        by_cases c12:((rd_T26 l0 x10_1).f1) = 0
        ·rw [if_pos c12] at H
         have c12b0:(((rd_T26 l0 x10_1).f1) == 0) = true:=beq_iff_eq.mpr c12
         have c12b1:(((rd_T26 l0 x10_1).f1) != 0) = false:=bne_eq_false_iff_eq.mpr c12
         clear c12
         obtain rfl:=Option.some.inj H
         have p254:0 ≤ (x10_1:Int):=of_decide_eq_true (by assumption)
         have q254:x10_1 < (l0.length:Int):=of_decide_eq_true (by assumption)
         obtain ⟨ad254,A254_2,c254_2,e254,hx254_0,hx254_1,hx254_2,hl254_2,hi254_2⟩:=at_T26 HR0.out x10_1 p254 q254
         cases e254
         replace hx254_0:=(HB.out.cell (World.block_lt_of_cell? w _ hx254_0)).trans hx254_0
         replace hx254_1:=(HB.out.cell (World.block_lt_of_cell? w _ hx254_1)).trans hx254_1
         replace hx254_2:=(HB.out.cell (World.block_lt_of_cell? w _ hx254_2)).trans hx254_2
         have HR254_2:=Aside0.mk hi254_2
         have HC254_2:=Aside0.mk hl254_2
         clear hi254_2 hl254_2
         replace p254:=eq_true p254
         replace q254:=eq_true q254
         go_wp2_with (first | ((with_reducible refine gate_dst (N:=6) rfl ?_);(try (refine gate_guard (by rfl) ?_;dsimp only));refine box_event ?hg (N:=6) ?hd (cs:=#[.int .i64 0,.int .i64 0,.slice none 0 0]) (t:=26) ?hr ?_;(case hd=>rfl);(case hg=>rfl);(case hr=>(go_simp;done));intro gb255 hg w13 hbox hb;have n0_:=Aside0.mk (below_step (by with_reducible exact HB.out) hb);have n1_:=Aside0.mk hbox;have n2_:=Aside0.mk ((by rw [hg];exact (below_size (by with_reducible exact HB.out)):w.heap.size ≤ gb255));have n3_:=Aside0.mk ((by rw [hg];exact (below_size (by with_reducible exact HB.out)):w.heap.size ≤ gb255));clear HB;have HB:=n0_;have BK255:=n1_;have GW255:=n2_;have GE255:=n3_;clear n0_ n1_ n2_ n3_;clear hb hbox hg;have hcz14_0:w13.cell? ⟨gb255,0,none⟩ = some (.int .i64 0):=(blk_cell BK255.out 0).trans rfl;have hcz14_1:w13.cell? ⟨gb255,1,none⟩ = some (.int .i64 0):=(blk_cell BK255.out 1).trans rfl;have hcz14_2:w13.cell? ⟨gb255,2,none⟩ = some (.slice none 0 0):=(blk_cell BK255.out 2).trans rfl;have hfz14_0:=blk_frozen BK255.out 0;have hfz14_1:=blk_frozen BK255.out 1;have hfz14_2:=blk_frozen BK255.out 2) | ((with_reducible refine gate_callee (f:=93) rfl ?_);refine goesL_ (some 15) rfl rfl Try.func93 (by kernel_rfl) rfl #[.agg #[.int .i64 ((rd_T26 l0 x10_1).f0),.int .i64 ((rd_T26 l0 x10_1).f1),.slice A254_2 ((rd_T26 l0 x10_1).f2).length c254_2]] rfl (by (try simp only [List.map_toArray,List.map_cons,List.map_nil]);rfl) ?_;(with_reducible refine (flow_elem.calls k1 ((rd_T26 l0 x10_1).f0) ((rd_T26 l0 x10_1).f1) _ _ ((rd_T26 l0 x10_1).f2) t256 _ ?side1 ?side2 A6.out).mono ?_);(case side1=>exact Kd.C_below HR254_2.out (by repeat ((with_reducible first | exact HB.out | refine below_set ?_ GE255.out))));(case side2=>exact HC254_2.out);rintro e w15 ⟨rfl,hb⟩;refine ⟨_,rfl,?_⟩;have n0_:=Aside0.mk (blk_below (g:=gb255) (o:=.cells #[.int .i64 ((rd_T26 l0 x10_1).f0),.int .i64 ((rd_T26 l0 x10_1).f1),.slice A254_2 ((rd_T26 l0 x10_1).f2).length c254_2] 26 (0,0)) (by (with_reducible repeat (first | refine blk_drewN ?_ _ | refine blk_drew ?_ | refine blk_alloc ?_ _));refine blk_put (cs:=#[.int .i64 ((rd_T26 l0 x10_1).f0),.int .i64 ((rd_T26 l0 x10_1).f1),.slice none 0 0]) ?_ 2 _ rfl;(with_reducible repeat (first | refine blk_drewN ?_ _ | refine blk_drew ?_ | refine blk_alloc ?_ _));refine blk_put (cs:=#[.int .i64 ((rd_T26 l0 x10_1).f0),.int .i64 0,.slice none 0 0]) ?_ 1 _ rfl;(with_reducible repeat (first | refine blk_drewN ?_ _ | refine blk_drew ?_ | refine blk_alloc ?_ _));refine blk_put (cs:=#[.int .i64 0,.int .i64 0,.slice none 0 0]) ?_ 0 _ rfl;exact BK255.out) hb);have n1_:=Aside0.mk (below_step (by repeat ((with_reducible first | exact HB.out | refine below_set ?_ GE255.out))) hb);clear BK255;clear HB;have BK255:=n0_;have HB:=n1_;clear n0_ n1_;(try clear hb);(try clear hb2);(try clear hk);(try clear hi);have hcz16_0:w15.cell? ⟨gb255,0,none⟩ = some (.int .i64 ((rd_T26 l0 x10_1).f0)):=(blk_cell BK255.out 0).trans rfl;have hcz16_1:w15.cell? ⟨gb255,1,none⟩ = some (.int .i64 ((rd_T26 l0 x10_1).f1)):=(blk_cell BK255.out 1).trans rfl;have hcz16_2:w15.cell? ⟨gb255,2,none⟩ = some (.slice A254_2 ((rd_T26 l0 x10_1).f2).length c254_2):=(blk_cell BK255.out 2).trans rfl;have hfz16_0:=blk_frozen BK255.out 0;have hfz16_1:=blk_frozen BK255.out 1;have hfz16_2:=blk_frozen BK255.out 2))
         go_ret
         exact ⟨by rfl,HB.out⟩
        ·rw [if_neg c12] at H
         have c12b0:(((rd_T26 l0 x10_1).f1) == 0) = false:=beq_eq_false_iff_ne.mpr c12
         have c12b1:(((rd_T26 l0 x10_1).f1) != 0) = true:=bne_iff_ne.mpr c12
         have H':=Aside0.mk H
         clear H
         have p254:0 ≤ (x10_1:Int):=of_decide_eq_true (by assumption)
         have q254:x10_1 < (l0.length:Int):=of_decide_eq_true (by assumption)
         obtain ⟨ad254,A254_2,c254_2,e254,hx254_0,hx254_1,hx254_2,hl254_2,hi254_2⟩:=at_T26 HR0.out x10_1 p254 q254
         cases e254
         replace hx254_0:=(HB.out.cell (World.block_lt_of_cell? w _ hx254_0)).trans hx254_0
         replace hx254_1:=(HB.out.cell (World.block_lt_of_cell? w _ hx254_1)).trans hx254_1
         replace hx254_2:=(HB.out.cell (World.block_lt_of_cell? w _ hx254_2)).trans hx254_2
         have HR254_2:=Aside0.mk hi254_2
         have HC254_2:=Aside0.mk hl254_2
         clear hi254_2 hl254_2
         replace p254:=eq_true p254
         replace q254:=eq_true q254
         go_wp2_with (first | ((with_reducible refine gate_dst (N:=6) rfl ?_);(try (refine gate_guard (by rfl) ?_;dsimp only));refine box_event ?hg (N:=6) ?hd (cs:=#[.int .i64 0,.int .i64 0,.slice none 0 0]) (t:=26) ?hr ?_;(case hd=>rfl);(case hg=>rfl);(case hr=>(go_simp;done));intro gb255 hg w17 hbox hb;have n0_:=Aside0.mk (below_step (by with_reducible exact HB.out) hb);have n1_:=Aside0.mk hbox;have n2_:=Aside0.mk ((by rw [hg];exact (below_size (by with_reducible exact HB.out)):w.heap.size ≤ gb255));have n3_:=Aside0.mk ((by rw [hg];exact (below_size (by with_reducible exact HB.out)):w.heap.size ≤ gb255));clear HB;have HB:=n0_;have BK255:=n1_;have GW255:=n2_;have GE255:=n3_;clear n0_ n1_ n2_ n3_;clear hb hbox hg;have hcz18_0:w17.cell? ⟨gb255,0,none⟩ = some (.int .i64 0):=(blk_cell BK255.out 0).trans rfl;have hcz18_1:w17.cell? ⟨gb255,1,none⟩ = some (.int .i64 0):=(blk_cell BK255.out 1).trans rfl;have hcz18_2:w17.cell? ⟨gb255,2,none⟩ = some (.slice none 0 0):=(blk_cell BK255.out 2).trans rfl;have hfz18_0:=blk_frozen BK255.out 0;have hfz18_1:=blk_frozen BK255.out 1;have hfz18_2:=blk_frozen BK255.out 2) | ((with_reducible refine gate_callee (f:=93) rfl ?_);refine goesL_ (some 15) rfl rfl Try.func93 (by kernel_rfl) rfl #[.agg #[.int .i64 ((rd_T26 l0 x10_1).f0),.int .i64 ((rd_T26 l0 x10_1).f1),.slice A254_2 ((rd_T26 l0 x10_1).f2).length c254_2]] rfl (by (try simp only [List.map_toArray,List.map_cons,List.map_nil]);rfl) ?_;(with_reducible refine (flow_elem.calls k1 ((rd_T26 l0 x10_1).f0) ((rd_T26 l0 x10_1).f1) _ _ ((rd_T26 l0 x10_1).f2) t256 _ ?side1 ?side2 A6.out).mono ?_);(case side1=>exact Kd.C_below HR254_2.out (by repeat ((with_reducible first | exact HB.out | refine below_set ?_ GE255.out))));(case side2=>exact HC254_2.out);rintro e w19 ⟨rfl,hb⟩;refine ⟨_,rfl,?_⟩;have n0_:=Aside0.mk (blk_below (g:=gb255) (o:=.cells #[.int .i64 ((rd_T26 l0 x10_1).f0),.int .i64 ((rd_T26 l0 x10_1).f1),.slice A254_2 ((rd_T26 l0 x10_1).f2).length c254_2] 26 (0,0)) (by (with_reducible repeat (first | refine blk_drewN ?_ _ | refine blk_drew ?_ | refine blk_alloc ?_ _));refine blk_put (cs:=#[.int .i64 ((rd_T26 l0 x10_1).f0),.int .i64 ((rd_T26 l0 x10_1).f1),.slice none 0 0]) ?_ 2 _ rfl;(with_reducible repeat (first | refine blk_drewN ?_ _ | refine blk_drew ?_ | refine blk_alloc ?_ _));refine blk_put (cs:=#[.int .i64 ((rd_T26 l0 x10_1).f0),.int .i64 0,.slice none 0 0]) ?_ 1 _ rfl;(with_reducible repeat (first | refine blk_drewN ?_ _ | refine blk_drew ?_ | refine blk_alloc ?_ _));refine blk_put (cs:=#[.int .i64 0,.int .i64 0,.slice none 0 0]) ?_ 0 _ rfl;exact BK255.out) hb);have n1_:=Aside0.mk (below_step (by repeat ((with_reducible first | exact HB.out | refine below_set ?_ GE255.out))) hb);clear BK255;clear HB;have BK255:=n0_;have HB:=n1_;clear n0_ n1_;(try clear hb);(try clear hb2);(try clear hk);(try clear hi);have hcz20_0:w19.cell? ⟨gb255,0,none⟩ = some (.int .i64 ((rd_T26 l0 x10_1).f0)):=(blk_cell BK255.out 0).trans rfl;have hcz20_1:w19.cell? ⟨gb255,1,none⟩ = some (.int .i64 ((rd_T26 l0 x10_1).f1)):=(blk_cell BK255.out 1).trans rfl;have hcz20_2:w19.cell? ⟨gb255,2,none⟩ = some (.slice A254_2 ((rd_T26 l0 x10_1).f2).length c254_2):=(blk_cell BK255.out 2).trans rfl;have hfz20_0:=blk_frozen BK255.out 0;have hfz20_1:=blk_frozen BK255.out 1;have hfz20_2:=blk_frozen BK255.out 2))
         go_roundg k1
         case measure=>have:=HK1.out;omega
         case rel=>exact ⟨(wrap64 (x10_1 + 1)),(by rfl),H',⟨by have:=HK1.out;omega⟩,⟨HB.out⟩⟩
      ·rw [if_neg c7] at H
       have c7b0:(t256 == 0) = false:=beq_eq_false_iff_ne.mpr c7
       have c7b1:(t256 != 0) = true:=bne_iff_ne.mpr c7
       obtain rfl:=Option.some.inj H
       have p254:0 ≤ (x10_1:Int):=of_decide_eq_true (by assumption)
       have q254:x10_1 < (l0.length:Int):=of_decide_eq_true (by assumption)
       obtain ⟨ad254,A254_2,c254_2,e254,hx254_0,hx254_1,hx254_2,hl254_2,hi254_2⟩:=at_T26 HR0.out x10_1 p254 q254
       cases e254
       replace hx254_0:=(HB.out.cell (World.block_lt_of_cell? w _ hx254_0)).trans hx254_0
       replace hx254_1:=(HB.out.cell (World.block_lt_of_cell? w _ hx254_1)).trans hx254_1
       replace hx254_2:=(HB.out.cell (World.block_lt_of_cell? w _ hx254_2)).trans hx254_2
       have HR254_2:=Aside0.mk hi254_2
       have HC254_2:=Aside0.mk hl254_2
       clear hi254_2 hl254_2
       replace p254:=eq_true p254
       replace q254:=eq_true q254
       go_wp2_with (first | ((with_reducible refine gate_dst (N:=6) rfl ?_);(try (refine gate_guard (by rfl) ?_;dsimp only));refine box_event ?hg (N:=6) ?hd (cs:=#[.int .i64 0,.int .i64 0,.slice none 0 0]) (t:=26) ?hr ?_;(case hd=>rfl);(case hg=>rfl);(case hr=>(go_simp;done));intro gb255 hg w21 hbox hb;have n0_:=Aside0.mk (below_step (by with_reducible exact HB.out) hb);have n1_:=Aside0.mk hbox;have n2_:=Aside0.mk ((by rw [hg];exact (below_size (by with_reducible exact HB.out)):w.heap.size ≤ gb255));have n3_:=Aside0.mk ((by rw [hg];exact (below_size (by with_reducible exact HB.out)):w.heap.size ≤ gb255));clear HB;have HB:=n0_;have BK255:=n1_;have GW255:=n2_;have GE255:=n3_;clear n0_ n1_ n2_ n3_;clear hb hbox hg;have hcz22_0:w21.cell? ⟨gb255,0,none⟩ = some (.int .i64 0):=(blk_cell BK255.out 0).trans rfl;have hcz22_1:w21.cell? ⟨gb255,1,none⟩ = some (.int .i64 0):=(blk_cell BK255.out 1).trans rfl;have hcz22_2:w21.cell? ⟨gb255,2,none⟩ = some (.slice none 0 0):=(blk_cell BK255.out 2).trans rfl;have hfz22_0:=blk_frozen BK255.out 0;have hfz22_1:=blk_frozen BK255.out 1;have hfz22_2:=blk_frozen BK255.out 2) | ((with_reducible refine gate_callee (f:=93) rfl ?_);refine goesL_ (some 15) rfl rfl Try.func93 (by kernel_rfl) rfl #[.agg #[.int .i64 ((rd_T26 l0 x10_1).f0),.int .i64 ((rd_T26 l0 x10_1).f1),.slice A254_2 ((rd_T26 l0 x10_1).f2).length c254_2]] rfl (by (try simp only [List.map_toArray,List.map_cons,List.map_nil]);rfl) ?_;(with_reducible refine (flow_elem.calls k1 ((rd_T26 l0 x10_1).f0) ((rd_T26 l0 x10_1).f1) _ _ ((rd_T26 l0 x10_1).f2) t256 _ ?side1 ?side2 A6.out).mono ?_);(case side1=>exact Kd.C_below HR254_2.out (by repeat ((with_reducible first | exact HB.out | refine below_set ?_ GE255.out))));(case side2=>exact HC254_2.out);rintro e w23 ⟨rfl,hb⟩;refine ⟨_,rfl,?_⟩;have n0_:=Aside0.mk (blk_below (g:=gb255) (o:=.cells #[.int .i64 ((rd_T26 l0 x10_1).f0),.int .i64 ((rd_T26 l0 x10_1).f1),.slice A254_2 ((rd_T26 l0 x10_1).f2).length c254_2] 26 (0,0)) (by (with_reducible repeat (first | refine blk_drewN ?_ _ | refine blk_drew ?_ | refine blk_alloc ?_ _));refine blk_put (cs:=#[.int .i64 ((rd_T26 l0 x10_1).f0),.int .i64 ((rd_T26 l0 x10_1).f1),.slice none 0 0]) ?_ 2 _ rfl;(with_reducible repeat (first | refine blk_drewN ?_ _ | refine blk_drew ?_ | refine blk_alloc ?_ _));refine blk_put (cs:=#[.int .i64 ((rd_T26 l0 x10_1).f0),.int .i64 0,.slice none 0 0]) ?_ 1 _ rfl;(with_reducible repeat (first | refine blk_drewN ?_ _ | refine blk_drew ?_ | refine blk_alloc ?_ _));refine blk_put (cs:=#[.int .i64 0,.int .i64 0,.slice none 0 0]) ?_ 0 _ rfl;exact BK255.out) hb);have n1_:=Aside0.mk (below_step (by repeat ((with_reducible first | exact HB.out | refine below_set ?_ GE255.out))) hb);clear BK255;clear HB;have BK255:=n0_;have HB:=n1_;clear n0_ n1_;(try clear hb);(try clear hb2);(try clear hk);(try clear hi)))
       go_ret
       exact ⟨by rfl,HB.out⟩
     ·rw [if_neg c5] at H
      exact absurd H (by simp)
    ·rw [if_neg c4] at H
     exact absurd H (by simp)
   ·rw [if_neg c3] at H
    have c3b0:decide (x10_1 < (l0.length:Int)) = false:=decide_eq_false c3
    clear c3
    by_cases c24:a1 = true
    ·subst c24
     have H1:(if (l0.length:Int) = 0 then (some 11) else (if 0 ≤ (wrap64 ((l0.length:Int) - 1)) then (if (wrap64 ((l0.length:Int) - 1)) < (l0.length:Int) then (if ((rd_T26 l0 (wrap64 ((l0.length:Int) - 1))).f0) = 10 then (some 0) else (some 11)) else (none)) else (none))) = some r:=by rw [if_pos rfl] at H;exact H
     clear H
     have H:=H1
     clear H1
     by_cases c25:(l0.length:Int) = 0
     ·rw [if_pos c25] at H
      have c25b0:((l0.length:Int) == 0) = true:=beq_iff_eq.mpr c25
      have c25b1:((l0.length:Int) != 0) = false:=bne_eq_false_iff_eq.mpr c25
      clear c25
      obtain rfl:=Option.some.inj H
      go_wp2
      go_ret
      exact ⟨by rfl,HB.out⟩
     ·rw [if_neg c25] at H
      have c25b0:((l0.length:Int) == 0) = false:=beq_eq_false_iff_ne.mpr c25
      have c25b1:((l0.length:Int) != 0) = true:=bne_iff_ne.mpr c25
      have c25b2:¬ (l0 = []):=fun h_=>c25 (by rw [h_];rfl)
      obtain ⟨ji26,hji26⟩:∃ j_:Int,(wrap64 ((l0.length:Int) - 1)) = j_:=⟨_,rfl⟩
      replace H:(if 0 ≤ (ji26) then (if (ji26) < (l0.length:Int) then (if ((rd_T26 l0 (ji26)).f0) = 10 then (some 0) else (some 11)) else (none)) else (none)) = some r:=by (rw [hji26] at H;exact H)
      have hji26w:(IntKind.i64.wrap ((l0.length:Int) - 1)) = ji26:=(i64_w _).trans hji26
      by_cases c27:0 ≤ (ji26)
      ·rw [if_pos c27] at H
       have c27b0:decide (0 ≤ (ji26)) = true:=decide_eq_true c27
       clear c27
       by_cases c28:(ji26) < (l0.length:Int)
       ·rw [if_pos c28] at H
        have c28b0:decide ((ji26) < (l0.length:Int)) = true:=decide_eq_true c28
        clear c28
        by_cases c29:((rd_T26 l0 (ji26)).f0) = 10
        ·rw [if_pos c29] at H
         have c29b0:(((rd_T26 l0 (ji26)).f0) == 10) = true:=beq_iff_eq.mpr c29
         have c29b1:(((rd_T26 l0 (ji26)).f0) != 10) = false:=bne_eq_false_iff_eq.mpr c29
         clear c29
         obtain rfl:=Option.some.inj H
         have p253:0 ≤ ((ji26):Int):=of_decide_eq_true (by assumption)
         have q253:(ji26) < (l0.length:Int):=of_decide_eq_true (by assumption)
         obtain ⟨ad253,A253_2,c253_2,e253,hx253_0,hx253_1,hx253_2,hl253_2,hi253_2⟩:=at_T26 HR0.out (ji26) p253 q253
         cases e253
         replace hx253_0:=(HB.out.cell (World.block_lt_of_cell? w _ hx253_0)).trans hx253_0
         replace hx253_1:=(HB.out.cell (World.block_lt_of_cell? w _ hx253_1)).trans hx253_1
         replace hx253_2:=(HB.out.cell (World.block_lt_of_cell? w _ hx253_2)).trans hx253_2
         have HR253_2:=Aside0.mk hi253_2
         have HC253_2:=Aside0.mk hl253_2
         clear hi253_2 hl253_2
         replace p253:=eq_true p253
         replace q253:=eq_true q253
         go_wp2
         go_ret
         exact ⟨by rfl,HB.out⟩
        ·rw [if_neg c29] at H
         have c29b0:(((rd_T26 l0 (ji26)).f0) == 10) = false:=beq_eq_false_iff_ne.mpr c29
         have c29b1:(((rd_T26 l0 (ji26)).f0) != 10) = true:=bne_iff_ne.mpr c29
         obtain rfl:=Option.some.inj H
         have p253:0 ≤ ((ji26):Int):=of_decide_eq_true (by assumption)
         have q253:(ji26) < (l0.length:Int):=of_decide_eq_true (by assumption)
         obtain ⟨ad253,A253_2,c253_2,e253,hx253_0,hx253_1,hx253_2,hl253_2,hi253_2⟩:=at_T26 HR0.out (ji26) p253 q253
         cases e253
         replace hx253_0:=(HB.out.cell (World.block_lt_of_cell? w _ hx253_0)).trans hx253_0
         replace hx253_1:=(HB.out.cell (World.block_lt_of_cell? w _ hx253_1)).trans hx253_1
         replace hx253_2:=(HB.out.cell (World.block_lt_of_cell? w _ hx253_2)).trans hx253_2
         have HR253_2:=Aside0.mk hi253_2
         have HC253_2:=Aside0.mk hl253_2
         clear hi253_2 hl253_2
         replace p253:=eq_true p253
         replace q253:=eq_true q253
         go_wp2
         go_ret
         exact ⟨by rfl,HB.out⟩
       ·rw [if_neg c28] at H
        exact absurd H (by simp)
      ·rw [if_neg c27] at H
       exact absurd H (by simp)
    ·replace c24:=Bool.eq_false_iff.mpr c24
     subst c24
     have H1:(some 0) = some r:=by rw [if_neg (show ¬ (false = true) by decide)] at H;exact H
     clear H
     have H:=H1
     clear H1
     obtain rfl:=Option.some.inj H
     go_wp2
     go_ret
     exact ⟨by rfl,HB.out⟩
def chanceryref1_In.f (a0:Int) (a1:Int) (a2:Int):Option (Bool):=if a0 ≥ a1 then (some (decide (a0 ≤ a2))) else (some false)
set_option maxHeartbeats 8000000 in
set_option maxRecDepth 100000 in
theorem chanceryref1_In.calls (a0:Int) (a1:Int) (a2:Int) (r:Bool) (w:World) (h:chanceryref1_In.f a0 a1 a2 = some r) :
 Calls Try.prog 24 #[.int .i64 a0,.int .i64 a1,.int .i64 a2] w fun e w'=>e = .returned (.bool r) ∧ Drawn0 w w':=by
 have H:(if a0 ≥ a1 then (some (decide (a0 ≤ a2))) else (some false)) = some r:=h
 clear h
 by_cases c4:a0 ≥ a1
 ·rw [if_pos c4] at H
  have c4b0:decide (a1 ≤ a0) = true:=decide_eq_true c4
  clear c4
  obtain rfl:=Option.some.inj H
  go_enter Try.func24,Try.ntmps24
  go_wp2
  go_ret
  exact ⟨by rfl,by repeat (exact Drawn0.refl _)⟩
 ·rw [if_neg c4] at H
  have c4b0:decide (a1 ≤ a0) = false:=decide_eq_false c4
  clear c4
  obtain rfl:=Option.some.inj H
  go_enter Try.func24,Try.ntmps24
  go_wp2
  go_ret
  exact ⟨by rfl,by repeat (exact Drawn0.refl _)⟩
def chanceryref1_Char.f (a0:Int):Option (Bool):=if a0 = 9 then (some true) else (if a0 = 10 then (some true) else ((chanceryref1_In.f a0 32 126).bind fun t262=>(if t262 = true then (some true) else ((chanceryref1_In.f a0 160 55295).bind fun t263=>(if t263 = true then (some true) else ((chanceryref1_In.f a0 57344 1114111).bind fun t264=>(some t264)))))))
set_option maxHeartbeats 8000000 in
set_option maxRecDepth 100000 in
theorem chanceryref1_Char.calls (a0:Int) (r:Bool) (w:World) (h:chanceryref1_Char.f a0 = some r) :
 Calls Try.prog 86 #[.int .i64 a0] w fun e w'=>e = .returned (.bool r) ∧ Drawn0 w w':=by
 have H:(if a0 = 9 then (some true) else (if a0 = 10 then (some true) else ((chanceryref1_In.f a0 32 126).bind fun t262=>(if t262 = true then (some true) else ((chanceryref1_In.f a0 160 55295).bind fun t263=>(if t263 = true then (some true) else ((chanceryref1_In.f a0 57344 1114111).bind fun t264=>(some t264)))))))) = some r:=h
 clear h
 by_cases c2:a0 = 9
 ·rw [if_pos c2] at H
  have c2b0:(a0 == 9) = true:=beq_iff_eq.mpr c2
  have c2b1:(a0 != 9) = false:=bne_eq_false_iff_eq.mpr c2
  clear c2
  obtain rfl:=Option.some.inj H
  go_enter Try.func86,Try.ntmps86
  go_wp2
  go_ret
  exact ⟨by rfl,by repeat (exact Drawn0.refl _)⟩
 ·rw [if_neg c2] at H
  have c2b0:(a0 == 9) = false:=beq_eq_false_iff_ne.mpr c2
  have c2b1:(a0 != 9) = true:=bne_iff_ne.mpr c2
  by_cases c3:a0 = 10
  ·rw [if_pos c3] at H
   have c3b0:(a0 == 10) = true:=beq_iff_eq.mpr c3
   have c3b1:(a0 != 10) = false:=bne_eq_false_iff_eq.mpr c3
   clear c3
   obtain rfl:=Option.some.inj H
   go_enter Try.func86,Try.ntmps86
   go_wp2
   go_ret
   exact ⟨by rfl,by repeat (exact Drawn0.refl _)⟩
  ·rw [if_neg c3] at H
   have c3b0:(a0 == 10) = false:=beq_eq_false_iff_ne.mpr c3
   have c3b1:(a0 != 10) = true:=bne_iff_ne.mpr c3
   replace H:=Option.bind_eq_some_iff.mp H
   obtain ⟨t262,A40,H⟩:=H
   replace H:(if t262 = true then (some true) else ((chanceryref1_In.f a0 160 55295).bind fun t263=>(if t263 = true then (some true) else ((chanceryref1_In.f a0 57344 1114111).bind fun t264=>(some t264))))) = some r:=H
   have A4:=Aside0.mk A40
   clear A40
   by_cases c5:t262 = true
   ·subst c5
    have H1:(some true) = some r:=by rw [if_pos rfl] at H;exact H
    clear H
    have H:=H1
    clear H1
    obtain rfl:=Option.some.inj H
    go_enter Try.func86,Try.ntmps86
    go_wp2_with ((go_at_call 24;(with_reducible refine (chanceryref1_In.calls a0 32 126 true _ A4.out).mono ?_);rintro e w' ⟨rfl,⟨nd,rfl⟩⟩))
    go_ret
    exact ⟨by rfl,by repeat (first | exact Drawn0.refl _ | apply Drawn0.step)⟩
   ·replace c5:=Bool.eq_false_iff.mpr c5
    subst c5
    have H1:((chanceryref1_In.f a0 160 55295).bind fun t263=>(if t263 = true then (some true) else ((chanceryref1_In.f a0 57344 1114111).bind fun t264=>(some t264)))) = some r:=by rw [if_neg (show ¬ (false = true) by decide)] at H;exact H
    clear H
    have H:=H1
    clear H1
    replace H:=Option.bind_eq_some_iff.mp H
    obtain ⟨t263,A60,H⟩:=H
    replace H:(if t263 = true then (some true) else ((chanceryref1_In.f a0 57344 1114111).bind fun t264=>(some t264))) = some r:=H
    have A6:=Aside0.mk A60
    clear A60
    by_cases c7:t263 = true
    ·subst c7
     have H1:(some true) = some r:=by rw [if_pos rfl] at H;exact H
     clear H
     have H:=H1
     clear H1
     obtain rfl:=Option.some.inj H
     go_enter Try.func86,Try.ntmps86
     go_wp2_with (first | (go_at_call 24;(with_reducible refine (chanceryref1_In.calls a0 32 126 false _ A4.out).mono ?_);rintro e w' ⟨rfl,⟨nd,rfl⟩⟩) | (go_at_call 24;(with_reducible refine (chanceryref1_In.calls a0 160 55295 true _ A6.out).mono ?_);rintro e w' ⟨rfl,⟨nd,rfl⟩⟩))
     go_ret
     exact ⟨by rfl,by repeat (first | exact Drawn0.refl _ | apply Drawn0.step)⟩
    ·replace c7:=Bool.eq_false_iff.mpr c7
     subst c7
     have H1:((chanceryref1_In.f a0 57344 1114111).bind fun t264=>(some t264)) = some r:=by rw [if_neg (show ¬ (false = true) by decide)] at H;exact H
     clear H
     have H:=H1
     clear H1
     replace H:=Option.bind_eq_some_iff.mp H
     obtain ⟨t264,A80,H⟩:=H
     replace H:(some t264) = some r:=H
     have A8:=Aside0.mk A80
     clear A80
     obtain rfl:=Option.some.inj H
     go_enter Try.func86,Try.ntmps86
     go_wp2_with (first | (go_at_call 24;(with_reducible refine (chanceryref1_In.calls a0 32 126 false _ A4.out).mono ?_);rintro e w' ⟨rfl,⟨nd,rfl⟩⟩) | (go_at_call 24;(with_reducible refine (chanceryref1_In.calls a0 160 55295 false _ A6.out).mono ?_);rintro e w' ⟨rfl,⟨nd,rfl⟩⟩) | (go_at_call 24;(with_reducible refine (chanceryref1_In.calls a0 57344 1114111 t264 _ A8.out).mono ?_);rintro e w' ⟨rfl,⟨nd,rfl⟩⟩))
     go_ret
     exact ⟨by rfl,by repeat (first | exact Drawn0.refl _ | apply Drawn0.step)⟩
def chanceryref1_Name.l0:Nat → ByteArray → Int → Int → Option (Bool)
 | 0,_,_,_=>none
 | k + 1,x0,x6,x7=>if x7 < x6 then (if 0 ≤ x7 then (if x7 < (x0.size:Int) then (if (bt x0 x7) ≥ 97 then (if ((bt x0 x7) ≤ 122) then (chanceryref1_Name.l0 k x0 x6 (wrap64 (x7 + 1))) else (if x7 = 0 then (some false) else (if (bt x0 x7) = 46 then (chanceryref1_Name.l0 k x0 x6 (wrap64 (x7 + 1))) else (if (bt x0 x7) = 45 then (chanceryref1_Name.l0 k x0 x6 (wrap64 (x7 + 1))) else (if (bt x0 x7) < 48 then (some false) else (if (bt x0 x7) > 57 then (some false) else (chanceryref1_Name.l0 k x0 x6 (wrap64 (x7 + 1))))))))) else (if x7 = 0 then (some false) else (if (bt x0 x7) = 46 then (chanceryref1_Name.l0 k x0 x6 (wrap64 (x7 + 1))) else (if (bt x0 x7) = 45 then (chanceryref1_Name.l0 k x0 x6 (wrap64 (x7 + 1))) else (if (bt x0 x7) < 48 then (some false) else (if (bt x0 x7) > 57 then (some false) else (chanceryref1_Name.l0 k x0 x6 (wrap64 (x7 + 1))))))))) else (none)) else (none)) else (if (x0.size:Int) ≥ 1 then (some (decide ((x0.size:Int) ≤ 24))) else (some false))
def chanceryref1_Name.f (k:Nat) (a0:ByteArray):Option (Bool):=chanceryref1_Name.l0 k a0 (a0.size:Int) 0
theorem chanceryref1_Name.mono_l:∀ k,(∀ y0 y1 y2,LeO (chanceryref1_Name.l0 k y0 y1 y2) (chanceryref1_Name.l0 (k + 1) y0 y1 y2))
 | 0=>fun _ _ _ r h=>by simp [chanceryref1_Name.l0] at h
 | k + 1=>by
  have ih0:=chanceryref1_Name.mono_l k
  ·intro y0 y1 y2
   unfold chanceryref1_Name.l0
   repeat' first | (with_reducible exact ih0 _ _ _) | (with_reducible exact LeO.refl _) | (with_reducible refine LeO.ite ?_ ?_)
theorem chanceryref1_Name.mono:∀ a0 k,LeO (chanceryref1_Name.f k a0) (chanceryref1_Name.f (k + 1) a0):=by
 intro a0 k
 have ih0:=chanceryref1_Name.mono_l k
 unfold chanceryref1_Name.f
 repeat' (with_reducible exact ih0 _ _ _)
set_option maxHeartbeats 8000000 in
set_option maxRecDepth 100000 in
theorem chanceryref1_Name.calls (k:Nat) (a0:ByteArray) (r:Bool) (w:World) (h:chanceryref1_Name.f k a0 = some r) :
 Calls Try.prog 127 #[.string a0] w fun e w'=>e = .returned (.bool r) ∧ Drawn0 w w':=by
 have H:(chanceryref1_Name.l0 k a0 (a0.size:Int) 0) = some r:=h
 clear h
 have H':=Aside0.mk H
 clear H
 go_enter Try.func127,Try.ntmps127
 go_wp2
 go_loopg [7] k (fun kq v7 w'=>∃ (x7_1:Int),v7 = .int .i64 x7_1 ∧ Aside0 (chanceryref1_Name.l0 kq a0 (a0.size:Int) x7_1 = some r) ∧ Aside0 (kq ≤ k) ∧ Drawn0 w w')
 case atStart=>exact ⟨(0),(by rfl),H',⟨Nat.le_refl _⟩,by repeat (exact Drawn0.refl _)⟩
 case round =>
  clear H'
  obtain ⟨x7_1,rfl,HA,HK1,⟨m1,rfl⟩⟩:=hrel
  cases gk with
  | zero=>exact absurd HA.out (by simp [chanceryref1_Name.l0])
  | succ k1 =>
   have H:=HA.out
   clear HA
   simp only [chanceryref1_Name.l0] at H
   by_cases c2:x7_1 < (a0.size:Int)
   ·rw [if_pos c2] at H
    have c2b0:decide (x7_1 < (a0.size:Int)) = true:=decide_eq_true c2
    clear c2
    by_cases c3:0 ≤ x7_1
    ·rw [if_pos c3] at H
     have c3b0:decide (0 ≤ x7_1) = true:=decide_eq_true c3
     clear c3
     by_cases c4:x7_1 < (a0.size:Int)
     ·rw [if_pos c4] at H
      have c4b0:decide (x7_1 < (a0.size:Int)) = true:=decide_eq_true c4
      clear c4
      by_cases c6:(bt a0 x7_1) ≥ 97
      ·rw [if_pos c6] at H
       have c6b0:decide (97 ≤ (bt a0 x7_1)) = true:=decide_eq_true c6
       clear c6
       by_cases c8:((bt a0 x7_1) ≤ 122)
       ·rw [if_pos c8] at H
        have c8b0:decide ((bt a0 x7_1) ≤ 122) = true:=decide_eq_true c8
        clear c8
        have H':=Aside0.mk H
        clear H
        have p5:0 ≤ (x7_1:Int):=of_decide_eq_true (by assumption)
        have q5:x7_1 < (a0.size:Int):=of_decide_eq_true (by assumption)
        have hx5:=bt_at a0 x7_1
        replace p5:=eq_true p5
        replace q5:=eq_true q5
        have p7:0 ≤ (x7_1:Int):=of_decide_eq_true (by assumption)
        have q7:x7_1 < (a0.size:Int):=of_decide_eq_true (by assumption)
        have hx7:=bt_at a0 x7_1
        replace p7:=eq_true p7
        replace q7:=eq_true q7
        go_wp2
        go_roundg k1
        case measure=>have:=HK1.out;omega
        case rel=>exact ⟨(wrap64 (x7_1 + 1)),(by rfl),H',⟨by have:=HK1.out;omega⟩,by repeat (first | exact Drawn0.refl _ | apply Drawn0.step)⟩
       ·rw [if_neg c8] at H
        have c8b0:decide ((bt a0 x7_1) ≤ 122) = false:=decide_eq_false c8
        clear c8
        by_cases c9:x7_1 = 0
        ·rw [if_pos c9] at H
         have c9b0:(x7_1 == 0) = true:=beq_iff_eq.mpr c9
         have c9b1:(x7_1 != 0) = false:=bne_eq_false_iff_eq.mpr c9
         clear c9
         obtain rfl:=Option.some.inj H
         have p5:0 ≤ (x7_1:Int):=of_decide_eq_true (by assumption)
         have q5:x7_1 < (a0.size:Int):=of_decide_eq_true (by assumption)
         have hx5:=bt_at a0 x7_1
         replace p5:=eq_true p5
         replace q5:=eq_true q5
         have p7:0 ≤ (x7_1:Int):=of_decide_eq_true (by assumption)
         have q7:x7_1 < (a0.size:Int):=of_decide_eq_true (by assumption)
         have hx7:=bt_at a0 x7_1
         replace p7:=eq_true p7
         replace q7:=eq_true q7
         go_wp2
         go_ret
         exact ⟨by rfl,by repeat (first | exact Drawn0.refl _ | apply Drawn0.step)⟩
        ·rw [if_neg c9] at H
         have c9b0:(x7_1 == 0) = false:=beq_eq_false_iff_ne.mpr c9
         have c9b1:(x7_1 != 0) = true:=bne_iff_ne.mpr c9
         by_cases c11:(bt a0 x7_1) = 46
         ·rw [if_pos c11] at H
          have c11b0:((bt a0 x7_1) == 46) = true:=beq_iff_eq.mpr c11
          have c11b1:((bt a0 x7_1) != 46) = false:=bne_eq_false_iff_eq.mpr c11
          clear c11
          have H':=Aside0.mk H
          clear H
          have p5:0 ≤ (x7_1:Int):=of_decide_eq_true (by assumption)
          have q5:x7_1 < (a0.size:Int):=of_decide_eq_true (by assumption)
          have hx5:=bt_at a0 x7_1
          replace p5:=eq_true p5
          replace q5:=eq_true q5
          have p7:0 ≤ (x7_1:Int):=of_decide_eq_true (by assumption)
          have q7:x7_1 < (a0.size:Int):=of_decide_eq_true (by assumption)
          have hx7:=bt_at a0 x7_1
          replace p7:=eq_true p7
          replace q7:=eq_true q7
          have p10:0 ≤ (x7_1:Int):=of_decide_eq_true (by assumption)
          have q10:x7_1 < (a0.size:Int):=of_decide_eq_true (by assumption)
          have hx10:=bt_at a0 x7_1
          replace p10:=eq_true p10
          replace q10:=eq_true q10
          go_wp2
          go_roundg k1
          case measure=>have:=HK1.out;omega
          case rel=>exact ⟨(wrap64 (x7_1 + 1)),(by rfl),H',⟨by have:=HK1.out;omega⟩,by repeat (first | exact Drawn0.refl _ | apply Drawn0.step)⟩
         ·rw [if_neg c11] at H
          have c11b0:((bt a0 x7_1) == 46) = false:=beq_eq_false_iff_ne.mpr c11
          have c11b1:((bt a0 x7_1) != 46) = true:=bne_iff_ne.mpr c11
          by_cases c13:(bt a0 x7_1) = 45
          ·rw [if_pos c13] at H
           have c13b0:((bt a0 x7_1) == 45) = true:=beq_iff_eq.mpr c13
           have c13b1:((bt a0 x7_1) != 45) = false:=bne_eq_false_iff_eq.mpr c13
           clear c13
           have H':=Aside0.mk H
           clear H
           have p5:0 ≤ (x7_1:Int):=of_decide_eq_true (by assumption)
           have q5:x7_1 < (a0.size:Int):=of_decide_eq_true (by assumption)
           have hx5:=bt_at a0 x7_1
           replace p5:=eq_true p5
           replace q5:=eq_true q5
           have p7:0 ≤ (x7_1:Int):=of_decide_eq_true (by assumption)
           have q7:x7_1 < (a0.size:Int):=of_decide_eq_true (by assumption)
           have hx7:=bt_at a0 x7_1
           replace p7:=eq_true p7
           replace q7:=eq_true q7
           have p10:0 ≤ (x7_1:Int):=of_decide_eq_true (by assumption)
           have q10:x7_1 < (a0.size:Int):=of_decide_eq_true (by assumption)
           have hx10:=bt_at a0 x7_1
           replace p10:=eq_true p10
           replace q10:=eq_true q10
           have p12:0 ≤ (x7_1:Int):=of_decide_eq_true (by assumption)
           have q12:x7_1 < (a0.size:Int):=of_decide_eq_true (by assumption)
           have hx12:=bt_at a0 x7_1
           replace p12:=eq_true p12
           replace q12:=eq_true q12
           go_wp2
           go_roundg k1
           case measure=>have:=HK1.out;omega
           case rel=>exact ⟨(wrap64 (x7_1 + 1)),(by rfl),H',⟨by have:=HK1.out;omega⟩,by repeat (first | exact Drawn0.refl _ | apply Drawn0.step)⟩
          ·rw [if_neg c13] at H
           have c13b0:((bt a0 x7_1) == 45) = false:=beq_eq_false_iff_ne.mpr c13
           have c13b1:((bt a0 x7_1) != 45) = true:=bne_iff_ne.mpr c13
           by_cases c15:(bt a0 x7_1) < 48
           ·rw [if_pos c15] at H
            have c15b0:decide ((bt a0 x7_1) < 48) = true:=decide_eq_true c15
            clear c15
            obtain rfl:=Option.some.inj H
            have p5:0 ≤ (x7_1:Int):=of_decide_eq_true (by assumption)
            have q5:x7_1 < (a0.size:Int):=of_decide_eq_true (by assumption)
            have hx5:=bt_at a0 x7_1
            replace p5:=eq_true p5
            replace q5:=eq_true q5
            have p7:0 ≤ (x7_1:Int):=of_decide_eq_true (by assumption)
            have q7:x7_1 < (a0.size:Int):=of_decide_eq_true (by assumption)
            have hx7:=bt_at a0 x7_1
            replace p7:=eq_true p7
            replace q7:=eq_true q7
            have p10:0 ≤ (x7_1:Int):=of_decide_eq_true (by assumption)
            have q10:x7_1 < (a0.size:Int):=of_decide_eq_true (by assumption)
            have hx10:=bt_at a0 x7_1
            replace p10:=eq_true p10
            replace q10:=eq_true q10
            have p12:0 ≤ (x7_1:Int):=of_decide_eq_true (by assumption)
            have q12:x7_1 < (a0.size:Int):=of_decide_eq_true (by assumption)
            have hx12:=bt_at a0 x7_1
            replace p12:=eq_true p12
            replace q12:=eq_true q12
            have p14:0 ≤ (x7_1:Int):=of_decide_eq_true (by assumption)
            have q14:x7_1 < (a0.size:Int):=of_decide_eq_true (by assumption)
            have hx14:=bt_at a0 x7_1
            replace p14:=eq_true p14
            replace q14:=eq_true q14
            go_wp2
            go_ret
            exact ⟨by rfl,by repeat (first | exact Drawn0.refl _ | apply Drawn0.step)⟩
           ·rw [if_neg c15] at H
            have c15b0:decide ((bt a0 x7_1) < 48) = false:=decide_eq_false c15
            clear c15
            by_cases c17:(bt a0 x7_1) > 57
            ·rw [if_pos c17] at H
             have c17b0:decide (57 < (bt a0 x7_1)) = true:=decide_eq_true c17
             clear c17
             obtain rfl:=Option.some.inj H
             have p5:0 ≤ (x7_1:Int):=of_decide_eq_true (by assumption)
             have q5:x7_1 < (a0.size:Int):=of_decide_eq_true (by assumption)
             have hx5:=bt_at a0 x7_1
             replace p5:=eq_true p5
             replace q5:=eq_true q5
             have p7:0 ≤ (x7_1:Int):=of_decide_eq_true (by assumption)
             have q7:x7_1 < (a0.size:Int):=of_decide_eq_true (by assumption)
             have hx7:=bt_at a0 x7_1
             replace p7:=eq_true p7
             replace q7:=eq_true q7
             have p10:0 ≤ (x7_1:Int):=of_decide_eq_true (by assumption)
             have q10:x7_1 < (a0.size:Int):=of_decide_eq_true (by assumption)
             have hx10:=bt_at a0 x7_1
             replace p10:=eq_true p10
             replace q10:=eq_true q10
             have p12:0 ≤ (x7_1:Int):=of_decide_eq_true (by assumption)
             have q12:x7_1 < (a0.size:Int):=of_decide_eq_true (by assumption)
             have hx12:=bt_at a0 x7_1
             replace p12:=eq_true p12
             replace q12:=eq_true q12
             have p14:0 ≤ (x7_1:Int):=of_decide_eq_true (by assumption)
             have q14:x7_1 < (a0.size:Int):=of_decide_eq_true (by assumption)
             have hx14:=bt_at a0 x7_1
             replace p14:=eq_true p14
             replace q14:=eq_true q14
             have p16:0 ≤ (x7_1:Int):=of_decide_eq_true (by assumption)
             have q16:x7_1 < (a0.size:Int):=of_decide_eq_true (by assumption)
             have hx16:=bt_at a0 x7_1
             replace p16:=eq_true p16
             replace q16:=eq_true q16
             go_wp2
             go_ret
             exact ⟨by rfl,by repeat (first | exact Drawn0.refl _ | apply Drawn0.step)⟩
            ·rw [if_neg c17] at H
             have c17b0:decide (57 < (bt a0 x7_1)) = false:=decide_eq_false c17
             clear c17
             have H':=Aside0.mk H
             clear H
             have p5:0 ≤ (x7_1:Int):=of_decide_eq_true (by assumption)
             have q5:x7_1 < (a0.size:Int):=of_decide_eq_true (by assumption)
             have hx5:=bt_at a0 x7_1
             replace p5:=eq_true p5
             replace q5:=eq_true q5
             have p7:0 ≤ (x7_1:Int):=of_decide_eq_true (by assumption)
             have q7:x7_1 < (a0.size:Int):=of_decide_eq_true (by assumption)
             have hx7:=bt_at a0 x7_1
             replace p7:=eq_true p7
             replace q7:=eq_true q7
             have p10:0 ≤ (x7_1:Int):=of_decide_eq_true (by assumption)
             have q10:x7_1 < (a0.size:Int):=of_decide_eq_true (by assumption)
             have hx10:=bt_at a0 x7_1
             replace p10:=eq_true p10
             replace q10:=eq_true q10
             have p12:0 ≤ (x7_1:Int):=of_decide_eq_true (by assumption)
             have q12:x7_1 < (a0.size:Int):=of_decide_eq_true (by assumption)
             have hx12:=bt_at a0 x7_1
             replace p12:=eq_true p12
             replace q12:=eq_true q12
             have p14:0 ≤ (x7_1:Int):=of_decide_eq_true (by assumption)
             have q14:x7_1 < (a0.size:Int):=of_decide_eq_true (by assumption)
             have hx14:=bt_at a0 x7_1
             replace p14:=eq_true p14
             replace q14:=eq_true q14
             have p16:0 ≤ (x7_1:Int):=of_decide_eq_true (by assumption)
             have q16:x7_1 < (a0.size:Int):=of_decide_eq_true (by assumption)
             have hx16:=bt_at a0 x7_1
             replace p16:=eq_true p16
             replace q16:=eq_true q16
             go_wp2
             go_roundg k1
             case measure=>have:=HK1.out;omega
             case rel=>exact ⟨(wrap64 (x7_1 + 1)),(by rfl),H',⟨by have:=HK1.out;omega⟩,by repeat (first | exact Drawn0.refl _ | apply Drawn0.step)⟩
      ·rw [if_neg c6] at H
       have c6b0:decide (97 ≤ (bt a0 x7_1)) = false:=decide_eq_false c6
       clear c6
       by_cases c18:x7_1 = 0
       ·rw [if_pos c18] at H
        have c18b0:(x7_1 == 0) = true:=beq_iff_eq.mpr c18
        have c18b1:(x7_1 != 0) = false:=bne_eq_false_iff_eq.mpr c18
        clear c18
        obtain rfl:=Option.some.inj H
        have p5:0 ≤ (x7_1:Int):=of_decide_eq_true (by assumption)
        have q5:x7_1 < (a0.size:Int):=of_decide_eq_true (by assumption)
        have hx5:=bt_at a0 x7_1
        replace p5:=eq_true p5
        replace q5:=eq_true q5
        go_wp2
        go_ret
        exact ⟨by rfl,by repeat (first | exact Drawn0.refl _ | apply Drawn0.step)⟩
       ·rw [if_neg c18] at H
        have c18b0:(x7_1 == 0) = false:=beq_eq_false_iff_ne.mpr c18
        have c18b1:(x7_1 != 0) = true:=bne_iff_ne.mpr c18
        by_cases c20:(bt a0 x7_1) = 46
        ·rw [if_pos c20] at H
         have c20b0:((bt a0 x7_1) == 46) = true:=beq_iff_eq.mpr c20
         have c20b1:((bt a0 x7_1) != 46) = false:=bne_eq_false_iff_eq.mpr c20
         clear c20
         have H':=Aside0.mk H
         clear H
         have p5:0 ≤ (x7_1:Int):=of_decide_eq_true (by assumption)
         have q5:x7_1 < (a0.size:Int):=of_decide_eq_true (by assumption)
         have hx5:=bt_at a0 x7_1
         replace p5:=eq_true p5
         replace q5:=eq_true q5
         have p19:0 ≤ (x7_1:Int):=of_decide_eq_true (by assumption)
         have q19:x7_1 < (a0.size:Int):=of_decide_eq_true (by assumption)
         have hx19:=bt_at a0 x7_1
         replace p19:=eq_true p19
         replace q19:=eq_true q19
         go_wp2
         go_roundg k1
         case measure=>have:=HK1.out;omega
         case rel=>exact ⟨(wrap64 (x7_1 + 1)),(by rfl),H',⟨by have:=HK1.out;omega⟩,by repeat (first | exact Drawn0.refl _ | apply Drawn0.step)⟩
        ·rw [if_neg c20] at H
         have c20b0:((bt a0 x7_1) == 46) = false:=beq_eq_false_iff_ne.mpr c20
         have c20b1:((bt a0 x7_1) != 46) = true:=bne_iff_ne.mpr c20
         by_cases c22:(bt a0 x7_1) = 45
         ·rw [if_pos c22] at H
          have c22b0:((bt a0 x7_1) == 45) = true:=beq_iff_eq.mpr c22
          have c22b1:((bt a0 x7_1) != 45) = false:=bne_eq_false_iff_eq.mpr c22
          clear c22
          have H':=Aside0.mk H
          clear H
          have p5:0 ≤ (x7_1:Int):=of_decide_eq_true (by assumption)
          have q5:x7_1 < (a0.size:Int):=of_decide_eq_true (by assumption)
          have hx5:=bt_at a0 x7_1
          replace p5:=eq_true p5
          replace q5:=eq_true q5
          have p19:0 ≤ (x7_1:Int):=of_decide_eq_true (by assumption)
          have q19:x7_1 < (a0.size:Int):=of_decide_eq_true (by assumption)
          have hx19:=bt_at a0 x7_1
          replace p19:=eq_true p19
          replace q19:=eq_true q19
          have p21:0 ≤ (x7_1:Int):=of_decide_eq_true (by assumption)
          have q21:x7_1 < (a0.size:Int):=of_decide_eq_true (by assumption)
          have hx21:=bt_at a0 x7_1
          replace p21:=eq_true p21
          replace q21:=eq_true q21
          go_wp2
          go_roundg k1
          case measure=>have:=HK1.out;omega
          case rel=>exact ⟨(wrap64 (x7_1 + 1)),(by rfl),H',⟨by have:=HK1.out;omega⟩,by repeat (first | exact Drawn0.refl _ | apply Drawn0.step)⟩
         ·rw [if_neg c22] at H
          have c22b0:((bt a0 x7_1) == 45) = false:=beq_eq_false_iff_ne.mpr c22
          have c22b1:((bt a0 x7_1) != 45) = true:=bne_iff_ne.mpr c22
          by_cases c24:(bt a0 x7_1) < 48
          ·rw [if_pos c24] at H
           have c24b0:decide ((bt a0 x7_1) < 48) = true:=decide_eq_true c24
           clear c24
           obtain rfl:=Option.some.inj H
           have p5:0 ≤ (x7_1:Int):=of_decide_eq_true (by assumption)
           have q5:x7_1 < (a0.size:Int):=of_decide_eq_true (by assumption)
           have hx5:=bt_at a0 x7_1
           replace p5:=eq_true p5
           replace q5:=eq_true q5
           have p19:0 ≤ (x7_1:Int):=of_decide_eq_true (by assumption)
           have q19:x7_1 < (a0.size:Int):=of_decide_eq_true (by assumption)
           have hx19:=bt_at a0 x7_1
           replace p19:=eq_true p19
           replace q19:=eq_true q19
           have p21:0 ≤ (x7_1:Int):=of_decide_eq_true (by assumption)
           have q21:x7_1 < (a0.size:Int):=of_decide_eq_true (by assumption)
           have hx21:=bt_at a0 x7_1
           replace p21:=eq_true p21
           replace q21:=eq_true q21
           have p23:0 ≤ (x7_1:Int):=of_decide_eq_true (by assumption)
           have q23:x7_1 < (a0.size:Int):=of_decide_eq_true (by assumption)
           have hx23:=bt_at a0 x7_1
           replace p23:=eq_true p23
           replace q23:=eq_true q23
           go_wp2
           go_ret
           exact ⟨by rfl,by repeat (first | exact Drawn0.refl _ | apply Drawn0.step)⟩
          ·rw [if_neg c24] at H
           have c24b0:decide ((bt a0 x7_1) < 48) = false:=decide_eq_false c24
           clear c24
           by_cases c26:(bt a0 x7_1) > 57
           ·rw [if_pos c26] at H
            have c26b0:decide (57 < (bt a0 x7_1)) = true:=decide_eq_true c26
            clear c26
            obtain rfl:=Option.some.inj H
            have p5:0 ≤ (x7_1:Int):=of_decide_eq_true (by assumption)
            have q5:x7_1 < (a0.size:Int):=of_decide_eq_true (by assumption)
            have hx5:=bt_at a0 x7_1
            replace p5:=eq_true p5
            replace q5:=eq_true q5
            have p19:0 ≤ (x7_1:Int):=of_decide_eq_true (by assumption)
            have q19:x7_1 < (a0.size:Int):=of_decide_eq_true (by assumption)
            have hx19:=bt_at a0 x7_1
            replace p19:=eq_true p19
            replace q19:=eq_true q19
            have p21:0 ≤ (x7_1:Int):=of_decide_eq_true (by assumption)
            have q21:x7_1 < (a0.size:Int):=of_decide_eq_true (by assumption)
            have hx21:=bt_at a0 x7_1
            replace p21:=eq_true p21
            replace q21:=eq_true q21
            have p23:0 ≤ (x7_1:Int):=of_decide_eq_true (by assumption)
            have q23:x7_1 < (a0.size:Int):=of_decide_eq_true (by assumption)
            have hx23:=bt_at a0 x7_1
            replace p23:=eq_true p23
            replace q23:=eq_true q23
            have p25:0 ≤ (x7_1:Int):=of_decide_eq_true (by assumption)
            have q25:x7_1 < (a0.size:Int):=of_decide_eq_true (by assumption)
            have hx25:=bt_at a0 x7_1
            replace p25:=eq_true p25
            replace q25:=eq_true q25
            go_wp2
            go_ret
            exact ⟨by rfl,by repeat (first | exact Drawn0.refl _ | apply Drawn0.step)⟩
           ·rw [if_neg c26] at H
            have c26b0:decide (57 < (bt a0 x7_1)) = false:=decide_eq_false c26
            clear c26
            have H':=Aside0.mk H
            clear H
            have p5:0 ≤ (x7_1:Int):=of_decide_eq_true (by assumption)
            have q5:x7_1 < (a0.size:Int):=of_decide_eq_true (by assumption)
            have hx5:=bt_at a0 x7_1
            replace p5:=eq_true p5
            replace q5:=eq_true q5
            have p19:0 ≤ (x7_1:Int):=of_decide_eq_true (by assumption)
            have q19:x7_1 < (a0.size:Int):=of_decide_eq_true (by assumption)
            have hx19:=bt_at a0 x7_1
            replace p19:=eq_true p19
            replace q19:=eq_true q19
            have p21:0 ≤ (x7_1:Int):=of_decide_eq_true (by assumption)
            have q21:x7_1 < (a0.size:Int):=of_decide_eq_true (by assumption)
            have hx21:=bt_at a0 x7_1
            replace p21:=eq_true p21
            replace q21:=eq_true q21
            have p23:0 ≤ (x7_1:Int):=of_decide_eq_true (by assumption)
            have q23:x7_1 < (a0.size:Int):=of_decide_eq_true (by assumption)
            have hx23:=bt_at a0 x7_1
            replace p23:=eq_true p23
            replace q23:=eq_true q23
            have p25:0 ≤ (x7_1:Int):=of_decide_eq_true (by assumption)
            have q25:x7_1 < (a0.size:Int):=of_decide_eq_true (by assumption)
            have hx25:=bt_at a0 x7_1
            replace p25:=eq_true p25
            replace q25:=eq_true q25
            go_wp2
            go_roundg k1
            case measure=>have:=HK1.out;omega
            case rel=>exact ⟨(wrap64 (x7_1 + 1)),(by rfl),H',⟨by have:=HK1.out;omega⟩,by repeat (first | exact Drawn0.refl _ | apply Drawn0.step)⟩
     ·rw [if_neg c4] at H
      exact absurd H (by simp)
    ·rw [if_neg c3] at H
     exact absurd H (by simp)
   ·rw [if_neg c2] at H
    have c2b0:decide (x7_1 < (a0.size:Int)) = false:=decide_eq_false c2
    clear c2
    by_cases c27:(a0.size:Int) ≥ 1
    ·rw [if_pos c27] at H
     have c27b0:decide (1 ≤ (a0.size:Int)) = true:=decide_eq_true c27
     have c27b1:decide (1 ≤ a0.size) = true:=decide_eq_true (by omega)
     clear c27
     obtain rfl:=Option.some.inj H
     go_wp2
     go_ret
     exact ⟨by rfl,by repeat (first | exact Drawn0.refl _ | apply Drawn0.step)⟩
    ·rw [if_neg c27] at H
     have c27b0:decide (1 ≤ (a0.size:Int)) = false:=decide_eq_false c27
     have c27b1:decide (1 ≤ a0.size) = false:=decide_eq_false (by omega)
     clear c27
     obtain rfl:=Option.some.inj H
     go_wp2
     go_ret
     exact ⟨by rfl,by repeat (first | exact Drawn0.refl _ | apply Drawn0.step)⟩
end Go.Proofs.Ytlcodfjlbhjkbaa.PDelta
end

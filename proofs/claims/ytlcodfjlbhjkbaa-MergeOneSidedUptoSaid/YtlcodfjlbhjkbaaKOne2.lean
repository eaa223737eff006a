/- Parts of the proof of One: nothing is claimed here by itself. -/
import Derived.Test.YtlcodfjlbhjkbaaKOne1
import Derived.StillTailTactics
set_option linter.unusedVariables false
set_option linter.unusedSimpArgs false
section
namespace Go.Proofs.Ytlcodfjlbhjkbaa.PDelta
open Go.RowKit Go.Proofs.YtlcodfjlbhjkbaaW.PrintWords Go.Proofs.YtlcodfjlbhjkbaaW.PrintLast Go.Proofs.YtlcodfjlbhjkbaaW.PrintMore
attribute [local go_sem] max2_int min2_int max_two min_two max_three min_three max_four min_four
attribute [local go_sem high] Go.Proofs.Ytlcodfjlbhjkbaa.Ord.leq_str Go.Proofs.Ytlcodfjlbhjkbaa.Ord.gtr_str Go.Proofs.Ytlcodfjlbhjkbaa.Ord.geq_str
mutual
def delta_Check.l0:Nat → List (S95) → Int → Int → List (S95) → Int → Int → Option (Int)
 | 0,_,_,_,_,_,_=>none
 | k + 1,x0,x3,x4,x9,x10,x11=>if x11 < x10 then (if 0 ≤ x11 then (if x11 < (x9.length:Int) then ((delta_step.f k ((rd_T95 x9 x11).f0) ((rd_T95 x9 x11).f1) ((rd_T95 x9 x11).f2) ((rd_T95 x9 x11).f3)).bind fun t159=>(if t159 = 0 then (if x11 > 0 then (if 0 ≤ (wrap64 (x11 - 1)) then (if (wrap64 (x11 - 1)) < (x0.length:Int) then (if ((rd_T95 x0 (wrap64 (x11 - 1))).f0) = ((rd_T95 x9 x11).f0) then (if ((rd_T95 x9 x11).f0) = 0 then ((attr_Same.f k ((rd_T95 x0 (wrap64 (x11 - 1))).f2) ((rd_T95 x9 x11).f2)).bind fun t162=>(if t162 = true then (some 5) else (if ((rd_T95 x0 (wrap64 (x11 - 1))).f0) = 2 then (if ((rd_T95 x9 x11).f0) = 1 then (some 5) else (delta_Check.j1 k x0 x3 x4 x9 x10 x11 ((rd_T95 x9 x11).f0) ((rd_T95 x9 x11).f1) ((rd_T95 x9 x11).f2) ((rd_T95 x9 x11).f3))) else (delta_Check.j1 k x0 x3 x4 x9 x10 x11 ((rd_T95 x9 x11).f0) ((rd_T95 x9 x11).f1) ((rd_T95 x9 x11).f2) ((rd_T95 x9 x11).f3))))) else (some 5)) else (if ((rd_T95 x0 (wrap64 (x11 - 1))).f0) = 2 then (if ((rd_T95 x9 x11).f0) = 1 then (some 5) else (delta_Check.j1 k x0 x3 x4 x9 x10 x11 ((rd_T95 x9 x11).f0) ((rd_T95 x9 x11).f1) ((rd_T95 x9 x11).f2) ((rd_T95 x9 x11).f3))) else (delta_Check.j1 k x0 x3 x4 x9 x10 x11 ((rd_T95 x9 x11).f0) ((rd_T95 x9 x11).f1) ((rd_T95 x9 x11).f2) ((rd_T95 x9 x11).f3)))) else (none)) else (none)) else (delta_Check.j1 k x0 x3 x4 x9 x10 x11 ((rd_T95 x9 x11).f0) ((rd_T95 x9 x11).f1) ((rd_T95 x9 x11).f2) ((rd_T95 x9 x11).f3))) else (some t159))) else (none)) else (none)) else (if x3 > 2147483647 then (some 3) else (if x4 > 2147483647 then (some 3) else (some 0)))
def delta_Check.j1:Nat → List (S95) → Int → Int → List (S95) → Int → Int → Int → Int → List (S91) → List (S26) → Option (Int)
 | 0,_,_,_,_,_,_,_,_,_,_=>none
 | k + 1,x0,x3,x4,x9,x10,x11,x159000,x159001,x159002,x159003=>if x159000 = 1 then (if x159000 = 2 then (delta_Check.l0 k x0 x3 x4 x9 x10 (wrap64 (x11 + 1))) else ((delta_size.f x159000 x159001 x159002 x159003).bind fun t163=>(delta_Check.l0 k x0 x3 (mn (wrap64 (x4 + t163)) 2147483648) x9 x10 (wrap64 (x11 + 1))))) else (if x159000 = 2 then (delta_Check.l0 k x0 (mn (wrap64 (x3 + x159001)) 2147483648) x4 x9 x10 (wrap64 (x11 + 1))) else ((delta_size.f x159000 x159001 x159002 x159003).bind fun t164=>(delta_Check.l0 k x0 (mn (wrap64 (x3 + x159001)) 2147483648) (mn (wrap64 (x4 + t164)) 2147483648) x9 x10 (wrap64 (x11 + 1)))))
end
def delta_Check.f (k:Nat) (l0:List (S95)):Option (Int):=delta_Check.l0 k l0 0 0 l0 (l0.length:Int) 0
set_option maxHeartbeats 8000000 in
set_option maxRecDepth 100000 in
theorem delta_Check.calls (k:Nat) (A0:Option Addr) (c0:Nat) (l0:List (S95)) (r:Int) (w:World) (hr0:Kd.C k95 w A0 l0.length l0) (hc0:l0.length ≤ c0) (h:delta_Check.f k l0 = some r) :
 Calls Try.prog 67 #[.slice A0 l0.length c0] w fun e w'=>e = .returned (.int .i64 r) ∧ Below w.heap.size w w':=by
 have hu95:=Try.underlying95
 have HR0:=Aside0.mk hr0
 have HC0:=Aside0.mk hc0
 clear hr0 hc0
 have HB:=Aside0.mk (Below.refl w.heap.size w)
 have H:(delta_Check.l0 k l0 0 0 l0 (l0.length:Int) 0) = some r:=h
 clear h
 have H':=Aside0.mk H
 clear H
 go_enter Try.func67,Try.ntmps67
 go_wp2
 go_loopg [3,4,11] k (fun kq v3 v4 v11 w'=>∃ (x3_1:Int) (x4_1:Int) (x11_1:Int),v3 = .int .i64 x3_1 ∧ v4 = .int .i64 x4_1 ∧ v11 = .int .i64 x11_1 ∧ Aside0 (delta_Check.l0 kq l0 x3_1 x4_1 l0 (l0.length:Int) x11_1 = some r) ∧ Aside0 (kq ≤ k) ∧ Aside0 (Below w.heap.size w w'))
 case atStart=>exact ⟨(0),(0),(0),(by rfl),(by rfl),(by rfl),H',⟨Nat.le_refl _⟩,⟨HB.out⟩⟩
 case round =>
  clear H'
  obtain ⟨x3_1,x4_1,x11_1,rfl,rfl,rfl,HA,HK1,HB⟩:=hrel
  cases gk with
  | zero=>exact absurd HA.out (by simp [delta_Check.l0])
  | succ k1 =>
   have H:=HA.out
   clear HA
   simp only [delta_Check.l0] at H
   by_cases c2:x11_1 < (l0.length:Int)
   ·rw [if_pos c2] at H
    have c2b0:decide (x11_1 < (l0.length:Int)) = true:=decide_eq_true c2
    clear c2
    by_cases c3:0 ≤ x11_1
    ·rw [if_pos c3] at H
     have c3b0:decide (0 ≤ x11_1) = true:=decide_eq_true c3
     clear c3
     by_cases c4:x11_1 < (l0.length:Int)
     ·rw [if_pos c4] at H
      have c4b0:decide (x11_1 < (l0.length:Int)) = true:=decide_eq_true c4
      clear c4
      replace H:=Option.bind_eq_some_iff.mp H
      obtain ⟨t159,A50,H⟩:=H
      replace H:(if t159 = 0 then (if x11_1 > 0 then (if 0 ≤ (wrap64 (x11_1 - 1)) then (if (wrap64 (x11_1 - 1)) < (l0.length:Int) then (if ((rd_T95 l0 (wrap64 (x11_1 - 1))).f0) = ((rd_T95 l0 x11_1).f0) then (if ((rd_T95 l0 x11_1).f0) = 0 then ((attr_Same.f k1 ((rd_T95 l0 (wrap64 (x11_1 - 1))).f2) ((rd_T95 l0 x11_1).f2)).bind fun t162=>(if t162 = true then (some 5) else (if ((rd_T95 l0 (wrap64 (x11_1 - 1))).f0) = 2 then (if ((rd_T95 l0 x11_1).f0) = 1 then (some 5) else (delta_Check.j1 k1 l0 x3_1 x4_1 l0 (l0.length:Int) x11_1 ((rd_T95 l0 x11_1).f0) ((rd_T95 l0 x11_1).f1) ((rd_T95 l0 x11_1).f2) ((rd_T95 l0 x11_1).f3))) else (delta_Check.j1 k1 l0 x3_1 x4_1 l0 (l0.length:Int) x11_1 ((rd_T95 l0 x11_1).f0) ((rd_T95 l0 x11_1).f1) ((rd_T95 l0 x11_1).f2) ((rd_T95 l0 x11_1).f3))))) else (some 5)) else (if ((rd_T95 l0 (wrap64 (x11_1 - 1))).f0) = 2 then (if ((rd_T95 l0 x11_1).f0) = 1 then (some 5) else (delta_Check.j1 k1 l0 x3_1 x4_1 l0 (l0.length:Int) x11_1 ((rd_T95 l0 x11_1).f0) ((rd_T95 l0 x11_1).f1) ((rd_T95 l0 x11_1).f2) ((rd_T95 l0 x11_1).f3))) else (delta_Check.j1 k1 l0 x3_1 x4_1 l0 (l0.length:Int) x11_1 ((rd_T95 l0 x11_1).f0) ((rd_T95 l0 x11_1).f1) ((rd_T95 l0 x11_1).f2) ((rd_T95 l0 x11_1).f3)))) else (none)) else (none)) else (delta_Check.j1 k1 l0 x3_1 x4_1 l0 (l0.length:Int) x11_1 ((rd_T95 l0 x11_1).f0) ((rd_T95 l0 x11_1).f1) ((rd_T95 l0 x11_1).f2) ((rd_T95 l0 x11_1).f3))) else (some t159)) = some r:=H
      have A5:=Aside0.mk A50
      clear A50
      by_cases c6:t159 = 0
      ·rw [if_pos c6] at H
       have c6b0:(t159 == 0) = true:=beq_iff_eq.mpr c6
       have c6b1:(t159 != 0) = false:=bne_eq_false_iff_eq.mpr c6
       clear c6
       have HC7:=Aside0.mk H
       clear H
       have p157:0 ≤ (x11_1:Int):=of_decide_eq_true (by assumption)
       have q157:x11_1 < (l0.length:Int):=of_decide_eq_true (by assumption)
       obtain ⟨ad157,A157_2,c157_2,A157_3,c157_3,e157,hx157_0,hx157_1,hx157_2,hx157_3,hl157_2,hi157_2,hl157_3,hi157_3⟩:=at_T95 HR0.out x11_1 p157 q157
       cases e157
       replace hx157_0:=(HB.out.cell (World.block_lt_of_cell? w _ hx157_0)).trans hx157_0
       replace hx157_1:=(HB.out.cell (World.block_lt_of_cell? w _ hx157_1)).trans hx157_1
       replace hx157_2:=(HB.out.cell (World.block_lt_of_cell? w _ hx157_2)).trans hx157_2
       replace hx157_3:=(HB.out.cell (World.block_lt_of_cell? w _ hx157_3)).trans hx157_3
       have HR157_2:=Aside0.mk hi157_2
       have HC157_2:=Aside0.mk hl157_2
       clear hi157_2 hl157_2
       have HR157_3:=Aside0.mk hi157_3
       have HC157_3:=Aside0.mk hl157_3
       clear hi157_3 hl157_3
       replace p157:=eq_true p157
       replace q157:=eq_true q157
       go_upto_if 22 with (first | ((with_reducible refine gate_dst (N:=6) rfl ?_);refine box_event ?hg (N:=6) ?hd (cs:=#[.int .i64 0,.int .i64 0,.slice none 0 0,.slice none 0 0]) (t:=95) ?hr ?_;(case hd=>rfl);(case hg=>rfl);(case hr=>(go_simp;done));intro gb158 hg w8 hbox hb;have n0_:=Aside0.mk (below_step (by with_reducible exact HB.out) hb);have n1_:=Aside0.mk hbox;have n2_:=Aside0.mk ((by rw [hg];exact (below_size (by with_reducible exact HB.out)):w.heap.size ≤ gb158));have n3_:=Aside0.mk ((by rw [hg];exact (below_size (by with_reducible exact HB.out)):w.heap.size ≤ gb158));clear HB;have HB:=n0_;have BK158:=n1_;have GW158:=n2_;have GE158:=n3_;clear n0_ n1_ n2_ n3_;clear hb hbox hg;have hcz9_0:w8.cell? ⟨gb158,0,none⟩ = some (.int .i64 0):=(blk_cell BK158.out 0).trans rfl;have hcz9_1:w8.cell? ⟨gb158,1,none⟩ = some (.int .i64 0):=(blk_cell BK158.out 1).trans rfl;have hcz9_2:w8.cell? ⟨gb158,2,none⟩ = some (.slice none 0 0):=(blk_cell BK158.out 2).trans rfl;have hcz9_3:w8.cell? ⟨gb158,3,none⟩ = some (.slice none 0 0):=(blk_cell BK158.out 3).trans rfl;have hfz9_0:=blk_frozen BK158.out 0;have hfz9_1:=blk_frozen BK158.out 1;have hfz9_2:=blk_frozen BK158.out 2;have hfz9_3:=blk_frozen BK158.out 3) | ((with_reducible refine gate_callee (f:=104) rfl ?_);refine goesL_ (some 17) rfl rfl Try.func104 (by kernel_rfl) rfl #[.agg #[.int .i64 ((rd_T95 l0 x11_1).f0),.int .i64 ((rd_T95 l0 x11_1).f1),.slice A157_2 ((rd_T95 l0 x11_1).f2).length c157_2,.slice A157_3 ((rd_T95 l0 x11_1).f3).length c157_3]] rfl (by (try simp only [List.map_toArray,List.map_cons,List.map_nil]);rfl) ?_;(with_reducible refine (delta_step.calls k1 ((rd_T95 l0 x11_1).f0) ((rd_T95 l0 x11_1).f1) _ _ ((rd_T95 l0 x11_1).f2) _ _ ((rd_T95 l0 x11_1).f3) t159 _ ?side1 ?side2 ?side3 ?side4 A5.out).mono ?_);(case side1=>exact Kd.C_below HR157_2.out (by repeat ((with_reducible first | exact HB.out | refine below_set ?_ GE158.out))));(case side2=>exact HC157_2.out);(case side3=>exact Kd.C_below HR157_3.out (by repeat ((with_reducible first | exact HB.out | refine below_set ?_ GE158.out))));(case side4=>exact HC157_3.out);rintro e w10 ⟨rfl,hb⟩;refine ⟨_,rfl,?_⟩;have n0_:=Aside0.mk (blk_below (g:=gb158) (o:=.cells #[.int .i64 ((rd_T95 l0 x11_1).f0),.int .i64 ((rd_T95 l0 x11_1).f1),.slice A157_2 ((rd_T95 l0 x11_1).f2).length c157_2,.slice A157_3 ((rd_T95 l0 x11_1).f3).length c157_3] 95 (0,0)) (by (with_reducible repeat (first | refine blk_drewN ?_ _ | refine blk_drew ?_ | refine blk_alloc ?_ _));refine blk_put (cs:=#[.int .i64 ((rd_T95 l0 x11_1).f0),.int .i64 ((rd_T95 l0 x11_1).f1),.slice A157_2 ((rd_T95 l0 x11_1).f2).length c157_2,.slice none 0 0]) ?_ 3 _ rfl;(with_reducible repeat (first | refine blk_drewN ?_ _ | refine blk_drew ?_ | refine blk_alloc ?_ _));refine blk_put (cs:=#[.int .i64 ((rd_T95 l0 x11_1).f0),.int .i64 ((rd_T95 l0 x11_1).f1),.slice none 0 0,.slice none 0 0]) ?_ 2 _ rfl;(with_reducible repeat (first | refine blk_drewN ?_ _ | refine blk_drew ?_ | refine blk_alloc ?_ _));refine blk_put (cs:=#[.int .i64 ((rd_T95 l0 x11_1).f0),.int .i64 0,.slice none 0 0,.slice none 0 0]) ?_ 1 _ rfl;(with_reducible repeat (first | refine blk_drewN ?_ _ | refine blk_drew ?_ | refine blk_alloc ?_ _));refine blk_put (cs:=#[.int .i64 0,.int .i64 0,.slice none 0 0,.slice none 0 0]) ?_ 0 _ rfl;exact BK158.out) hb);have n1_:=Aside0.mk (below_step (by repeat ((with_reducible first | exact HB.out | refine below_set ?_ GE158.out))) hb);clear BK158;clear HB;have BK158:=n0_;have HB:=n1_;clear n0_ n1_;(try clear hb);(try clear hb2);(try clear hk);(try clear hi)))
       (try simp only [Act.put,List.setIfInBounds_toArray,List.set_cons_zero,List.set_cons_succ])
       go_cut [] (fun wc=>∃ (kq:Nat),Aside0 (delta_Check.j1 kq l0 x3_1 x4_1 l0 (l0.length:Int) x11_1 ((rd_T95 l0 x11_1).f0) ((rd_T95 l0 x11_1).f1) ((rd_T95 l0 x11_1).f2) ((rd_T95 l0 x11_1).f3) = some r) ∧ Aside0 (kq ≤ k1) ∧ Aside0 (wc.heap[gb158]? = some (.cells #[.int .i64 ((rd_T95 l0 x11_1).f0),.int .i64 ((rd_T95 l0 x11_1).f1),(.slice A157_2 ((rd_T95 l0 x11_1).f2).length c157_2),(.slice A157_3 ((rd_T95 l0 x11_1).f3).length c157_3)] 95 (0,0))) ∧ Aside0 (Below w.heap.size w wc))
       case first =>
        have H:=HC7.out
        clear HC7
        by_cases c11:x11_1 > 0
        ·rw [if_pos c11] at H
         have c11b0:decide (0 < x11_1) = true:=decide_eq_true c11
         clear c11
         (rw [c11b0])
         obtain ⟨ji12,hji12⟩:∃ j_:Int,(wrap64 (x11_1 - 1)) = j_:=⟨_,rfl⟩
         replace H:(if 0 ≤ (ji12) then (if (ji12) < (l0.length:Int) then (if ((rd_T95 l0 (ji12)).f0) = ((rd_T95 l0 x11_1).f0) then (if ((rd_T95 l0 x11_1).f0) = 0 then ((attr_Same.f k1 ((rd_T95 l0 (ji12)).f2) ((rd_T95 l0 x11_1).f2)).bind fun t162=>(if t162 = true then (some 5) else (if ((rd_T95 l0 (ji12)).f0) = 2 then (if ((rd_T95 l0 x11_1).f0) = 1 then (some 5) else (delta_Check.j1 k1 l0 x3_1 x4_1 l0 (l0.length:Int) x11_1 ((rd_T95 l0 x11_1).f0) ((rd_T95 l0 x11_1).f1) ((rd_T95 l0 x11_1).f2) ((rd_T95 l0 x11_1).f3))) else (delta_Check.j1 k1 l0 x3_1 x4_1 l0 (l0.length:Int) x11_1 ((rd_T95 l0 x11_1).f0) ((rd_T95 l0 x11_1).f1) ((rd_T95 l0 x11_1).f2) ((rd_T95 l0 x11_1).f3))))) else (some 5)) else (if ((rd_T95 l0 (ji12)).f0) = 2 then (if ((rd_T95 l0 x11_1).f0) = 1 then (some 5) else (delta_Check.j1 k1 l0 x3_1 x4_1 l0 (l0.length:Int) x11_1 ((rd_T95 l0 x11_1).f0) ((rd_T95 l0 x11_1).f1) ((rd_T95 l0 x11_1).f2) ((rd_T95 l0 x11_1).f3))) else (delta_Check.j1 k1 l0 x3_1 x4_1 l0 (l0.length:Int) x11_1 ((rd_T95 l0 x11_1).f0) ((rd_T95 l0 x11_1).f1) ((rd_T95 l0 x11_1).f2) ((rd_T95 l0 x11_1).f3)))) else (none)) else (none)) = some r:=by (rw [hji12] at H;exact H)
         have hji12w:(IntKind.i64.wrap (x11_1 - 1)) = ji12:=(i64_w _).trans hji12
         by_cases c13:0 ≤ (ji12)
         ·rw [if_pos c13] at H
          have c13b0:decide (0 ≤ (ji12)) = true:=decide_eq_true c13
          clear c13
          by_cases c14:(ji12) < (l0.length:Int)
          ·rw [if_pos c14] at H
           have c14b0:decide ((ji12) < (l0.length:Int)) = true:=decide_eq_true c14
           clear c14
           by_cases c15:((rd_T95 l0 (ji12)).f0) = ((rd_T95 l0 x11_1).f0)
           ·rw [if_pos c15] at H
            have c15b0:(((rd_T95 l0 (ji12)).f0) == ((rd_T95 l0 x11_1).f0)) = true:=beq_iff_eq.mpr c15
            have c15b1:(((rd_T95 l0 (ji12)).f0) != ((rd_T95 l0 x11_1).f0)) = false:=bne_eq_false_iff_eq.mpr c15
            clear c15
            by_cases c16:((rd_T95 l0 x11_1).f0) = 0
            ·rw [if_pos c16] at H
             have c16b0:(((rd_T95 l0 x11_1).f0) == 0) = true:=beq_iff_eq.mpr c16
             have c16b1:(((rd_T95 l0 x11_1).f0) != 0) = false:=bne_eq_false_iff_eq.mpr c16
             clear c16
             replace H:=Option.bind_eq_some_iff.mp H
             obtain ⟨t162,A170,H⟩:=H
             replace H:(if t162 = true then (some 5) else (if ((rd_T95 l0 (ji12)).f0) = 2 then (if ((rd_T95 l0 x11_1).f0) = 1 then (some 5) else (delta_Check.j1 k1 l0 x3_1 x4_1 l0 (l0.length:Int) x11_1 ((rd_T95 l0 x11_1).f0) ((rd_T95 l0 x11_1).f1) ((rd_T95 l0 x11_1).f2) ((rd_T95 l0 x11_1).f3))) else (delta_Check.j1 k1 l0 x3_1 x4_1 l0 (l0.length:Int) x11_1 ((rd_T95 l0 x11_1).f0) ((rd_T95 l0 x11_1).f1) ((rd_T95 l0 x11_1).f2) ((rd_T95 l0 x11_1).f3)))) = some r:=H
             have A17:=Aside0.mk A170
             clear A170
             by_cases c18:t162 = true
             ·subst c18
              have H1:(some 5) = some r:=by rw [if_pos rfl] at H;exact H
              clear H
              have H:=H1
              clear H1
              obtain rfl:=Option.some.inj H
              have p160:0 ≤ ((ji12):Int):=of_decide_eq_true (by assumption)
              have q160:(ji12) < (l0.length:Int):=of_decide_eq_true (by assumption)
              obtain ⟨ad160,A160_2,c160_2,A160_3,c160_3,e160,hx160_0,hx160_1,hx160_2,hx160_3,hl160_2,hi160_2,hl160_3,hi160_3⟩:=at_T95 HR0.out (ji12) p160 q160
              obtain rfl:ad157 = ad160:=(by injection e160)
              replace hx160_0:=(HB.out.cell (World.block_lt_of_cell? w _ hx160_0)).trans hx160_0
              replace hx160_1:=(HB.out.cell (World.block_lt_of_cell? w _ hx160_1)).trans hx160_1
              replace hx160_2:=(HB.out.cell (World.block_lt_of_cell? w _ hx160_2)).trans hx160_2
              replace hx160_3:=(HB.out.cell (World.block_lt_of_cell? w _ hx160_3)).trans hx160_3
              have HR160_2:=Aside0.mk hi160_2
              have HC160_2:=Aside0.mk hl160_2
              clear hi160_2 hl160_2
              have HR160_3:=Aside0.mk hi160_3
              have HC160_3:=Aside0.mk hl160_3
              clear hi160_3 hl160_3
              replace p160:=eq_true p160
              replace q160:=eq_true q160
              go_wp2_with (first | ((with_reducible refine gate_dst (N:=8) rfl ?_);refine box_event ?hg (N:=8) ?hd (cs:=#[.int .i64 0,.int .i64 0,.slice none 0 0,.slice none 0 0]) (t:=95) ?hr ?_;(case hd=>rfl);(case hg=>rfl);(case hr=>(go_simp;done));intro gb161 hg w19 hbox hb;have n0_:=Aside0.mk (blk_below BK158.out hb);have n1_:=Aside0.mk (below_step HB.out hb);have n2_:=Aside0.mk hbox;have n3_:=Aside0.mk ((by rw [hg];exact (below_size HB.out):w.heap.size ≤ gb161));have n4_:=Aside0.mk ((by rw [hg];exact (below_size HB.out):w.heap.size ≤ gb161));have n5_:=Aside0.mk ((by rw [hg];exact Nat.ne_of_lt (blk_lt BK158.out):gb158 ≠ gb161));have n6_:=Aside0.mk ((by rw [hg];exact Nat.ne_of_gt (blk_lt BK158.out):gb161 ≠ gb158));clear BK158;clear HB;have BK158:=n0_;have HB:=n1_;have BK161:=n2_;have GW161:=n3_;have GE161:=n4_;have NB158_161:=n5_;have NB161_158:=n6_;clear n0_ n1_ n2_ n3_ n4_ n5_ n6_;clear hb hbox hg;have hnb20:=NB161_158.out;have hnc20:=NB158_161.out;have hcz21_0:w19.cell? ⟨gb161,0,none⟩ = some (.int .i64 0):=(blk_cell BK161.out 0).trans rfl;have hcz21_1:w19.cell? ⟨gb161,1,none⟩ = some (.int .i64 0):=(blk_cell BK161.out 1).trans rfl;have hcz21_2:w19.cell? ⟨gb161,2,none⟩ = some (.slice none 0 0):=(blk_cell BK161.out 2).trans rfl;have hcz21_3:w19.cell? ⟨gb161,3,none⟩ = some (.slice none 0 0):=(blk_cell BK161.out 3).trans rfl;have hfz21_0:=blk_frozen BK161.out 0;have hfz21_1:=blk_frozen BK161.out 1;have hfz21_2:=blk_frozen BK161.out 2;have hfz21_3:=blk_frozen BK161.out 3;have hcz22_0:w19.cell? ⟨gb158,0,none⟩ = some (.int .i64 ((rd_T95 l0 x11_1).f0)):=(blk_cell BK158.out 0).trans rfl;have hcz22_1:w19.cell? ⟨gb158,1,none⟩ = some (.int .i64 ((rd_T95 l0 x11_1).f1)):=(blk_cell BK158.out 1).trans rfl;have hcz22_2:w19.cell? ⟨gb158,2,none⟩ = some (.slice A157_2 ((rd_T95 l0 x11_1).f2).length c157_2):=(blk_cell BK158.out 2).trans rfl;have hcz22_3:w19.cell? ⟨gb158,3,none⟩ = some (.slice A157_3 ((rd_T95 l0 x11_1).f3).length c157_3):=(blk_cell BK158.out 3).trans rfl;have hfz22_0:=blk_frozen BK158.out 0;have hfz22_1:=blk_frozen BK158.out 1;have hfz22_2:=blk_frozen BK158.out 2;have hfz22_3:=blk_frozen BK158.out 3) | (go_at_call 105;(with_reducible refine (attr_Same.calls k1 _ _ ((rd_T95 l0 (ji12)).f2) _ _ ((rd_T95 l0 x11_1).f2) true _ ?side1 ?side2 ?side3 ?side4 A17.out).mono ?_);(case side1=>exact Kd.C_below HR160_2.out (by repeat ((with_reducible first | exact HB.out | refine below_set ?_ GE161.out))));(case side2=>exact HC160_2.out);(case side3=>exact Kd.C_below HR157_2.out (by repeat ((with_reducible first | exact HB.out | refine below_set ?_ GE161.out))));(case side4=>exact HC157_2.out);rintro e w' ⟨rfl,⟨nd,rfl⟩⟩))
              go_ret
              exact ⟨by rfl,by repeat ((with_reducible first | exact HB.out | apply pw_below_drewN | refine below_set ?_ GE161.out))⟩
             ·replace c18:=Bool.eq_false_iff.mpr c18
              subst c18
              have H1:(if ((rd_T95 l0 (ji12)).f0) = 2 then (if ((rd_T95 l0 x11_1).f0) = 1 then (some 5) else (delta_Check.j1 k1 l0 x3_1 x4_1 l0 (l0.length:Int) x11_1 ((rd_T95 l0 x11_1).f0) ((rd_T95 l0 x11_1).f1) ((rd_T95 l0 x11_1).f2) ((rd_T95 l0 x11_1).f3))) else (delta_Check.j1 k1 l0 x3_1 x4_1 l0 (l0.length:Int) x11_1 ((rd_T95 l0 x11_1).f0) ((rd_T95 l0 x11_1).f1) ((rd_T95 l0 x11_1).f2) ((rd_T95 l0 x11_1).f3))) = some r:=by rw [if_neg (show ¬ (false = true) by decide)] at H;exact H
              clear H
              have H:=H1
              clear H1
              by_cases c23:((rd_T95 l0 (ji12)).f0) = 2
              ·rw [if_pos c23] at H
               have c23b0:(((rd_T95 l0 (ji12)).f0) == 2) = true:=beq_iff_eq.mpr c23
               have c23b1:(((rd_T95 l0 (ji12)).f0) != 2) = false:=bne_eq_false_iff_eq.mpr c23
               clear c23
               by_cases c24:((rd_T95 l0 x11_1).f0) = 1
               ·rw [if_pos c24] at H
                have c24b0:(((rd_T95 l0 x11_1).f0) == 1) = true:=beq_iff_eq.mpr c24
                have c24b1:(((rd_T95 l0 x11_1).f0) != 1) = false:=bne_eq_false_iff_eq.mpr c24
                clear c24
                obtain rfl:=Option.some.inj H
                have p160:0 ≤ ((ji12):Int):=of_decide_eq_true (by assumption)
                have q160:(ji12) < (l0.length:Int):=of_decide_eq_true (by assumption)
                obtain ⟨ad160,A160_2,c160_2,A160_3,c160_3,e160,hx160_0,hx160_1,hx160_2,hx160_3,hl160_2,hi160_2,hl160_3,hi160_3⟩:=at_T95 HR0.out (ji12) p160 q160
                obtain rfl:ad157 = ad160:=(by injection e160)
                replace hx160_0:=(HB.out.cell (World.block_lt_of_cell? w _ hx160_0)).trans hx160_0
                replace hx160_1:=(HB.out.cell (World.block_lt_of_cell? w _ hx160_1)).trans hx160_1
                replace hx160_2:=(HB.out.cell (World.block_lt_of_cell? w _ hx160_2)).trans hx160_2
                replace hx160_3:=(HB.out.cell (World.block_lt_of_cell? w _ hx160_3)).trans hx160_3
                have HR160_2:=Aside0.mk hi160_2
                have HC160_2:=Aside0.mk hl160_2
                clear hi160_2 hl160_2
                have HR160_3:=Aside0.mk hi160_3
                have HC160_3:=Aside0.mk hl160_3
                clear hi160_3 hl160_3
                replace p160:=eq_true p160
                replace q160:=eq_true q160
                go_wp2_with (first | ((with_reducible refine gate_dst (N:=8) rfl ?_);refine box_event ?hg (N:=8) ?hd (cs:=#[.int .i64 0,.int .i64 0,.slice none 0 0,.slice none 0 0]) (t:=95) ?hr ?_;(case hd=>rfl);(case hg=>rfl);(case hr=>(go_simp;done));intro gb161 hg w25 hbox hb;have n0_:=Aside0.mk (blk_below BK158.out hb);have n1_:=Aside0.mk (below_step HB.out hb);have n2_:=Aside0.mk hbox;have n3_:=Aside0.mk ((by rw [hg];exact (below_size HB.out):w.heap.size ≤ gb161));have n4_:=Aside0.mk ((by rw [hg];exact (below_size HB.out):w.heap.size ≤ gb161));have n5_:=Aside0.mk ((by rw [hg];exact Nat.ne_of_lt (blk_lt BK158.out):gb158 ≠ gb161));have n6_:=Aside0.mk ((by rw [hg];exact Nat.ne_of_gt (blk_lt BK158.out):gb161 ≠ gb158));clear BK158;clear HB;have BK158:=n0_;have HB:=n1_;have BK161:=n2_;have GW161:=n3_;have GE161:=n4_;have NB158_161:=n5_;have NB161_158:=n6_;clear n0_ n1_ n2_ n3_ n4_ n5_ n6_;clear hb hbox hg;have hnb26:=NB161_158.out;have hnc26:=NB158_161.out;have hcz27_0:w25.cell? ⟨gb161,0,none⟩ = some (.int .i64 0):=(blk_cell BK161.out 0).trans rfl;have hcz27_1:w25.cell? ⟨gb161,1,none⟩ = some (.int .i64 0):=(blk_cell BK161.out 1).trans rfl;have hcz27_2:w25.cell? ⟨gb161,2,none⟩ = some (.slice none 0 0):=(blk_cell BK161.out 2).trans rfl;have hcz27_3:w25.cell? ⟨gb161,3,none⟩ = some (.slice none 0 0):=(blk_cell BK161.out 3).trans rfl;have hfz27_0:=blk_frozen BK161.out 0;have hfz27_1:=blk_frozen BK161.out 1;have hfz27_2:=blk_frozen BK161.out 2;have hfz27_3:=blk_frozen BK161.out 3;have hcz28_0:w25.cell? ⟨gb158,0,none⟩ = some (.int .i64 ((rd_T95 l0 x11_1).f0)):=(blk_cell BK158.out 0).trans rfl;have hcz28_1:w25.cell? ⟨gb158,1,none⟩ = some (.int .i64 ((rd_T95 l0 x11_1).f1)):=(blk_cell BK158.out 1).trans rfl;have hcz28_2:w25.cell? ⟨gb158,2,none⟩ = some (.slice A157_2 ((rd_T95 l0 x11_1).f2).length c157_2):=(blk_cell BK158.out 2).trans rfl;have hcz28_3:w25.cell? ⟨gb158,3,none⟩ = some (.slice A157_3 ((rd_T95 l0 x11_1).f3).length c157_3):=(blk_cell BK158.out 3).trans rfl;have hfz28_0:=blk_frozen BK158.out 0;have hfz28_1:=blk_frozen BK158.out 1;have hfz28_2:=blk_frozen BK158.out 2;have hfz28_3:=blk_frozen BK158.out 3) | (go_at_call 105;(with_reducible refine (attr_Same.calls k1 _ _ ((rd_T95 l0 (ji12)).f2) _ _ ((rd_T95 l0 x11_1).f2) false _ ?side1 ?side2 ?side3 ?side4 A17.out).mono ?_);(case side1=>exact Kd.C_below HR160_2.out (by repeat ((with_reducible first | exact HB.out | refine below_set ?_ GE161.out))));(case side2=>exact HC160_2.out);(case side3=>exact Kd.C_below HR157_2.out (by repeat ((with_reducible first | exact HB.out | refine below_set ?_ GE161.out))));(case side4=>exact HC157_2.out);rintro e w' ⟨rfl,⟨nd,rfl⟩⟩))
                go_ret
                exact ⟨by rfl,by repeat ((with_reducible first | exact HB.out | apply pw_below_drewN | refine below_set ?_ GE161.out))⟩
               ·rw [if_neg c24] at H
                have c24b0:(((rd_T95 l0 x11_1).f0) == 1) = false:=beq_eq_false_iff_ne.mpr c24
                have c24b1:(((rd_T95 l0 x11_1).f0) != 1) = true:=bne_iff_ne.mpr c24
                have H':=Aside0.mk H
                clear H
                have p160:0 ≤ ((ji12):Int):=of_decide_eq_true (by assumption)
                have q160:(ji12) < (l0.length:Int):=of_decide_eq_true (by assumption)
                obtain ⟨ad160,A160_2,c160_2,A160_3,c160_3,e160,hx160_0,hx160_1,hx160_2,hx160_3,hl160_2,hi160_2,hl160_3,hi160_3⟩:=at_T95 HR0.out (ji12) p160 q160
                obtain rfl:ad157 = ad160:=(by injection e160)
                replace hx160_0:=(HB.out.cell (World.block_lt_of_cell? w _ hx160_0)).trans hx160_0
                replace hx160_1:=(HB.out.cell (World.block_lt_of_cell? w _ hx160_1)).trans hx160_1
                replace hx160_2:=(HB.out.cell (World.block_lt_of_cell? w _ hx160_2)).trans hx160_2
                replace hx160_3:=(HB.out.cell (World.block_lt_of_cell? w _ hx160_3)).trans hx160_3
                have HR160_2:=Aside0.mk hi160_2
                have HC160_2:=Aside0.mk hl160_2
                clear hi160_2 hl160_2
                have HR160_3:=Aside0.mk hi160_3
                have HC160_3:=Aside0.mk hl160_3
                clear hi160_3 hl160_3
                replace p160:=eq_true p160
                replace q160:=eq_true q160
                go_wp2_with (first | ((with_reducible refine gate_dst (N:=8) rfl ?_);refine box_event ?hg (N:=8) ?hd (cs:=#[.int .i64 0,.int .i64 0,.slice none 0 0,.slice none 0 0]) (t:=95) ?hr ?_;(case hd=>rfl);(case hg=>rfl);(case hr=>(go_simp;done));intro gb161 hg w29 hbox hb;have n0_:=Aside0.mk (blk_below BK158.out hb);have n1_:=Aside0.mk (below_step HB.out hb);have n2_:=Aside0.mk hbox;have n3_:=Aside0.mk ((by rw [hg];exact (below_size HB.out):w.heap.size ≤ gb161));have n4_:=Aside0.mk ((by rw [hg];exact (below_size HB.out):w.heap.size ≤ gb161));have n5_:=Aside0.mk ((by rw [hg];exact Nat.ne_of_lt (blk_lt BK158.out):gb158 ≠ gb161));have n6_:=Aside0.mk ((by rw [hg];exact Nat.ne_of_gt (blk_lt BK158.out):gb161 ≠ gb158));clear BK158;clear HB;have BK158:=n0_;have HB:=n1_;have BK161:=n2_;have GW161:=n3_;have GE161:=n4_;have NB158_161:=n5_;have NB161_158:=n6_;clear n0_ n1_ n2_ n3_ n4_ n5_ n6_;clear hb hbox hg;have hnb30:=NB161_158.out;have hnc30:=NB158_161.out;have hcz31_0:w29.cell? ⟨gb161,0,none⟩ = some (.int .i64 0):=(blk_cell BK161.out 0).trans rfl;have hcz31_1:w29.cell? ⟨gb161,1,none⟩ = some (.int .i64 0):=(blk_cell BK161.out 1).trans rfl;have hcz31_2:w29.cell? ⟨gb161,2,none⟩ = some (.slice none 0 0):=(blk_cell BK161.out 2).trans rfl;have hcz31_3:w29.cell? ⟨gb161,3,none⟩ = some (.slice none 0 0):=(blk_cell BK161.out 3).trans rfl;have hfz31_0:=blk_frozen BK161.out 0;have hfz31_1:=blk_frozen BK161.out 1;have hfz31_2:=blk_frozen BK161.out 2;have hfz31_3:=blk_frozen BK161.out 3;have hcz32_0:w29.cell? ⟨gb158,0,none⟩ = some (.int .i64 ((rd_T95 l0 x11_1).f0)):=(blk_cell BK158.out 0).trans rfl;have hcz32_1:w29.cell? ⟨gb158,1,none⟩ = some (.int .i64 ((rd_T95 l0 x11_1).f1)):=(blk_cell BK158.out 1).trans rfl;have hcz32_2:w29.cell? ⟨gb158,2,none⟩ = some (.slice A157_2 ((rd_T95 l0 x11_1).f2).length c157_2):=(blk_cell BK158.out 2).trans rfl;have hcz32_3:w29.cell? ⟨gb158,3,none⟩ = some (.slice A157_3 ((rd_T95 l0 x11_1).f3).length c157_3):=(blk_cell BK158.out 3).trans rfl;have hfz32_0:=blk_frozen BK158.out 0;have hfz32_1:=blk_frozen BK158.out 1;have hfz32_2:=blk_frozen BK158.out 2;have hfz32_3:=blk_frozen BK158.out 3) | (go_at_call 105;(with_reducible refine (attr_Same.calls k1 _ _ ((rd_T95 l0 (ji12)).f2) _ _ ((rd_T95 l0 x11_1).f2) false _ ?side1 ?side2 ?side3 ?side4 A17.out).mono ?_);(case side1=>exact Kd.C_below HR160_2.out (by repeat ((with_reducible first | exact HB.out | refine below_set ?_ GE161.out))));(case side2=>exact HC160_2.out);(case side3=>exact Kd.C_below HR157_2.out (by repeat ((with_reducible first | exact HB.out | refine below_set ?_ GE161.out))));(case side4=>exact HC157_2.out);rintro e w' ⟨rfl,⟨nd,rfl⟩⟩))
                go_meet
                case rel=>exact ⟨_,H',⟨by have:=HK1.out;omega⟩,⟨by (with_reducible repeat (refine blk_drewN ?_ _));refine blk_far ?_ NB158_161.out _;(with_reducible repeat (first | refine blk_drewN ?_ _ | refine blk_drew ?_ | refine blk_alloc ?_ _));refine blk_far ?_ NB158_161.out _;(with_reducible repeat (first | refine blk_drewN ?_ _ | refine blk_drew ?_ | refine blk_alloc ?_ _));refine blk_far ?_ NB158_161.out _;(with_reducible repeat (first | refine blk_drewN ?_ _ | refine blk_drew ?_ | refine blk_alloc ?_ _));refine blk_far ?_ NB158_161.out _;exact BK158.out⟩,⟨by repeat ((with_reducible first | exact HB.out | apply pw_below_drewN | refine below_set ?_ GE161.out))⟩⟩
              ·rw [if_neg c23] at H
               have c23b0:(((rd_T95 l0 (ji12)).f0) == 2) = false:=beq_eq_false_iff_ne.mpr c23
               have c23b1:(((rd_T95 l0 (ji12)).f0) != 2) = true:=bne_iff_ne.mpr c23
               have H':=Aside0.mk H
               clear H
               have p160:0 ≤ ((ji12):Int):=of_decide_eq_true (by assumption)
               have q160:(ji12) < (l0.length:Int):=of_decide_eq_true (by assumption)
               obtain ⟨ad160,A160_2,c160_2,A160_3,c160_3,e160,hx160_0,hx160_1,hx160_2,hx160_3,hl160_2,hi160_2,hl160_3,hi160_3⟩:=at_T95 HR0.out (ji12) p160 q160
               obtain rfl:ad157 = ad160:=(by injection e160)
               replace hx160_0:=(HB.out.cell (World.block_lt_of_cell? w _ hx160_0)).trans hx160_0
               replace hx160_1:=(HB.out.cell (World.block_lt_of_cell? w _ hx160_1)).trans hx160_1
               replace hx160_2:=(HB.out.cell (World.block_lt_of_cell? w _ hx160_2)).trans hx160_2
               replace hx160_3:=(HB.out.cell (World.block_lt_of_cell? w _ hx160_3)).trans hx160_3
               have HR160_2:=Aside0.mk hi160_2
               have HC160_2:=Aside0.mk hl160_2
               clear hi160_2 hl160_2
               have HR160_3:=Aside0.mk hi160_3
               have HC160_3:=Aside0.mk hl160_3
               clear hi160_3 hl160_3
               replace p160:=eq_true p160
               replace q160:=eq_true q160
               go_wp2_with (first | ((with_reducible refine gate_dst (N:=8) rfl ?_);refine box_event ?hg (N:=8) ?hd (cs:=#[.int .i64 0,.int .i64 0,.slice none 0 0,.slice none 0 0]) (t:=95) ?hr ?_;(case hd=>rfl);(case hg=>rfl);(case hr=>(go_simp;done));intro gb161 hg w33 hbox hb;have n0_:=Aside0.mk (blk_below BK158.out hb);have n1_:=Aside0.mk (below_step HB.out hb);have n2_:=Aside0.mk hbox;have n3_:=Aside0.mk ((by rw [hg];exact (below_size HB.out):w.heap.size ≤ gb161));have n4_:=Aside0.mk ((by rw [hg];exact (below_size HB.out):w.heap.size ≤ gb161));have n5_:=Aside0.mk ((by rw [hg];exact Nat.ne_of_lt (blk_lt BK158.out):gb158 ≠ gb161));have n6_:=Aside0.mk ((by rw [hg];exact Nat.ne_of_gt (blk_lt BK158.out):gb161 ≠ gb158));clear BK158;clear HB;have BK158:=n0_;have HB:=n1_;have BK161:=n2_;have GW161:=n3_;have GE161:=n4_;have NB158_161:=n5_;have NB161_158:=n6_;clear n0_ n1_ n2_ n3_ n4_ n5_ n6_;clear hb hbox hg;have hnb34:=NB161_158.out;have hnc34:=NB158_161.out;have hcz35_0:w33.cell? ⟨gb161,0,none⟩ = some (.int .i64 0):=(blk_cell BK161.out 0).trans rfl;have hcz35_1:w33.cell? ⟨gb161,1,none⟩ = some (.int .i64 0):=(blk_cell BK161.out 1).trans rfl;have hcz35_2:w33.cell? ⟨gb161,2,none⟩ = some (.slice none 0 0):=(blk_cell BK161.out 2).trans rfl;have hcz35_3:w33.cell? ⟨gb161,3,none⟩ = some (.slice none 0 0):=(blk_cell BK161.out 3).trans rfl;have hfz35_0:=blk_frozen BK161.out 0;have hfz35_1:=blk_frozen BK161.out 1;have hfz35_2:=blk_frozen BK161.out 2;have hfz35_3:=blk_frozen BK161.out 3;have hcz36_0:w33.cell? ⟨gb158,0,none⟩ = some (.int .i64 ((rd_T95 l0 x11_1).f0)):=(blk_cell BK158.out 0).trans rfl;have hcz36_1:w33.cell? ⟨gb158,1,none⟩ = some (.int .i64 ((rd_T95 l0 x11_1).f1)):=(blk_cell BK158.out 1).trans rfl;have hcz36_2:w33.cell? ⟨gb158,2,none⟩ = some (.slice A157_2 ((rd_T95 l0 x11_1).f2).length c157_2):=(blk_cell BK158.out 2).trans rfl;have hcz36_3:w33.cell? ⟨gb158,3,none⟩ = some (.slice A157_3 ((rd_T95 l0 x11_1).f3).length c157_3):=(blk_cell BK158.out 3).trans rfl;have hfz36_0:=blk_frozen BK158.out 0;have hfz36_1:=blk_frozen BK158.out 1;have hfz36_2:=blk_frozen BK158.out 2;have hfz36_3:=blk_frozen BK158.out 3) | (go_at_call 105;(with_reducible refine (attr_Same.calls k1 _ _ ((rd_T95 l0 (ji12)).f2) _ _ ((rd_T95 l0 x11_1).f2) false _ ?side1 ?side2 ?side3 ?side4 A17.out).mono ?_);(case side1=>exact Kd.C_below HR160_2.out (by repeat ((with_reducible first | exact HB.out | refine below_set ?_ GE161.out))));(case side2=>exact HC160_2.out);(case side3=>exact Kd.C_below HR157_2.out (by repeat ((with_reducible first | exact HB.out | refine below_set ?_ GE161.out))));(case side4=>exact HC157_2.out);rintro e w' ⟨rfl,⟨nd,rfl⟩⟩))
               go_meet
               case rel=>exact ⟨_,H',⟨by have:=HK1.out;omega⟩,⟨by (with_reducible repeat (refine blk_drewN ?_ _));refine blk_far ?_ NB158_161.out _;(with_reducible repeat (first | refine blk_drewN ?_ _ | refine blk_drew ?_ | refine blk_alloc ?_ _));refine blk_far ?_ NB158_161.out _;(with_reducible repeat (first | refine blk_drewN ?_ _ | refine blk_drew ?_ | refine blk_alloc ?_ _));refine blk_far ?_ NB158_161.out _;(with_reducible repeat (first | refine blk_drewN ?_ _ | refine blk_drew ?_ | refine blk_alloc ?_ _));refine blk_far ?_ NB158_161.out _;exact BK158.out⟩,⟨by repeat ((with_reducible first | exact HB.out | apply pw_below_drewN | refine below_set ?_ GE161.out))⟩⟩
            ·rw [if_neg c16] at H
             have c16b0:(((rd_T95 l0 x11_1).f0) == 0) = false:=beq_eq_false_iff_ne.mpr c16
             have c16b1:(((rd_T95 l0 x11_1).f0) != 0) = true:=bne_iff_ne.mpr c16
             obtain rfl:=Option.some.inj H
             have p160:0 ≤ ((ji12):Int):=of_decide_eq_true (by assumption)
             have q160:(ji12) < (l0.length:Int):=of_decide_eq_true (by assumption)
             obtain ⟨ad160,A160_2,c160_2,A160_3,c160_3,e160,hx160_0,hx160_1,hx160_2,hx160_3,hl160_2,hi160_2,hl160_3,hi160_3⟩:=at_T95 HR0.out (ji12) p160 q160
             obtain rfl:ad157 = ad160:=(by injection e160)
             replace hx160_0:=(HB.out.cell (World.block_lt_of_cell? w _ hx160_0)).trans hx160_0
             replace hx160_1:=(HB.out.cell (World.block_lt_of_cell? w _ hx160_1)).trans hx160_1
             replace hx160_2:=(HB.out.cell (World.block_lt_of_cell? w _ hx160_2)).trans hx160_2
             replace hx160_3:=(HB.out.cell (World.block_lt_of_cell? w _ hx160_3)).trans hx160_3
             have HR160_2:=Aside0.mk hi160_2
             have HC160_2:=Aside0.mk hl160_2
             clear hi160_2 hl160_2
             have HR160_3:=Aside0.mk hi160_3
             have HC160_3:=Aside0.mk hl160_3
             clear hi160_3 hl160_3
             replace p160:=eq_true p160
             replace q160:=eq_true q160
             go_wp2_with (((with_reducible refine gate_dst (N:=8) rfl ?_);refine box_event ?hg (N:=8) ?hd (cs:=#[.int .i64 0,.int .i64 0,.slice none 0 0,.slice none 0 0]) (t:=95) ?hr ?_;(case hd=>rfl);(case hg=>rfl);(case hr=>(go_simp;done));intro gb161 hg w37 hbox hb;have n0_:=Aside0.mk (blk_below BK158.out hb);have n1_:=Aside0.mk (below_step HB.out hb);have n2_:=Aside0.mk hbox;have n3_:=Aside0.mk ((by rw [hg];exact (below_size HB.out):w.heap.size ≤ gb161));have n4_:=Aside0.mk ((by rw [hg];exact (below_size HB.out):w.heap.size ≤ gb161));have n5_:=Aside0.mk ((by rw [hg];exact Nat.ne_of_lt (blk_lt BK158.out):gb158 ≠ gb161));have n6_:=Aside0.mk ((by rw [hg];exact Nat.ne_of_gt (blk_lt BK158.out):gb161 ≠ gb158));clear BK158;clear HB;have BK158:=n0_;have HB:=n1_;have BK161:=n2_;have GW161:=n3_;have GE161:=n4_;have NB158_161:=n5_;have NB161_158:=n6_;clear n0_ n1_ n2_ n3_ n4_ n5_ n6_;clear hb hbox hg;have hnb38:=NB161_158.out;have hnc38:=NB158_161.out;have hcz39_0:w37.cell? ⟨gb161,0,none⟩ = some (.int .i64 0):=(blk_cell BK161.out 0).trans rfl;have hcz39_1:w37.cell? ⟨gb161,1,none⟩ = some (.int .i64 0):=(blk_cell BK161.out 1).trans rfl;have hcz39_2:w37.cell? ⟨gb161,2,none⟩ = some (.slice none 0 0):=(blk_cell BK161.out 2).trans rfl;have hcz39_3:w37.cell? ⟨gb161,3,none⟩ = some (.slice none 0 0):=(blk_cell BK161.out 3).trans rfl;have hfz39_0:=blk_frozen BK161.out 0;have hfz39_1:=blk_frozen BK161.out 1;have hfz39_2:=blk_frozen BK161.out 2;have hfz39_3:=blk_frozen BK161.out 3;have hcz40_0:w37.cell? ⟨gb158,0,none⟩ = some (.int .i64 ((rd_T95 l0 x11_1).f0)):=(blk_cell BK158.out 0).trans rfl;have hcz40_1:w37.cell? ⟨gb158,1,none⟩ = some (.int .i64 ((rd_T95 l0 x11_1).f1)):=(blk_cell BK158.out 1).trans rfl;have hcz40_2:w37.cell? ⟨gb158,2,none⟩ = some (.slice A157_2 ((rd_T95 l0 x11_1).f2).length c157_2):=(blk_cell BK158.out 2).trans rfl;have hcz40_3:w37.cell? ⟨gb158,3,none⟩ = some (.slice A157_3 ((rd_T95 l0 x11_1).f3).length c157_3):=(blk_cell BK158.out 3).trans rfl;have hfz40_0:=blk_frozen BK158.out 0;have hfz40_1:=blk_frozen BK158.out 1;have hfz40_2:=blk_frozen BK158.out 2;have hfz40_3:=blk_frozen BK158.out 3))
             go_ret
             exact ⟨by rfl,by repeat ((with_reducible first | exact HB.out | refine below_set ?_ GE161.out))⟩
           ·rw [if_neg c15] at H
            have c15b0:(((rd_T95 l0 (ji12)).f0) == ((rd_T95 l0 x11_1).f0)) = false:=beq_eq_false_iff_ne.mpr c15
            have c15b1:(((rd_T95 l0 (ji12)).f0) != ((rd_T95 l0 x11_1).f0)) = true:=bne_iff_ne.mpr c15
            by_cases c41:((rd_T95 l0 (ji12)).f0) = 2
            ·rw [if_pos c41] at H
             have c41b0:(((rd_T95 l0 (ji12)).f0) == 2) = true:=beq_iff_eq.mpr c41
             have c41b1:(((rd_T95 l0 (ji12)).f0) != 2) = false:=bne_eq_false_iff_eq.mpr c41
             clear c41
             by_cases c42:((rd_T95 l0 x11_1).f0) = 1
             ·rw [if_pos c42] at H
              have c42b0:(((rd_T95 l0 x11_1).f0) == 1) = true:=beq_iff_eq.mpr c42
              have c42b1:(((rd_T95 l0 x11_1).f0) != 1) = false:=bne_eq_false_iff_eq.mpr c42
              clear c42
              obtain rfl:=Option.some.inj H
              have p160:0 ≤ ((ji12):Int):=of_decide_eq_true (by assumption)
              have q160:(ji12) < (l0.length:Int):=of_decide_eq_true (by assumption)
              obtain ⟨ad160,A160_2,c160_2,A160_3,c160_3,e160,hx160_0,hx160_1,hx160_2,hx160_3,hl160_2,hi160_2,hl160_3,hi160_3⟩:=at_T95 HR0.out (ji12) p160 q160
              obtain rfl:ad157 = ad160:=(by injection e160)
              replace hx160_0:=(HB.out.cell (World.block_lt_of_cell? w _ hx160_0)).trans hx160_0
              replace hx160_1:=(HB.out.cell (World.block_lt_of_cell? w _ hx160_1)).trans hx160_1
              replace hx160_2:=(HB.out.cell (World.block_lt_of_cell? w _ hx160_2)).trans hx160_2
              replace hx160_3:=(HB.out.cell (World.block_lt_of_cell? w _ hx160_3)).trans hx160_3
              have HR160_2:=Aside0.mk hi160_2
              have HC160_2:=Aside0.mk hl160_2
              clear hi160_2 hl160_2
              have HR160_3:=Aside0.mk hi160_3
              have HC160_3:=Aside0.mk hl160_3
              clear hi160_3 hl160_3
              replace p160:=eq_true p160
              replace q160:=eq_true q160
              go_wp2_with (((with_reducible refine gate_dst (N:=8) rfl ?_);refine box_event ?hg (N:=8) ?hd (cs:=#[.int .i64 0,.int .i64 0,.slice none 0 0,.slice none 0 0]) (t:=95) ?hr ?_;(case hd=>rfl);(case hg=>rfl);(case hr=>(go_simp;done));intro gb161 hg w43 hbox hb;have n0_:=Aside0.mk (blk_below BK158.out hb);have n1_:=Aside0.mk (below_step HB.out hb);have n2_:=Aside0.mk hbox;have n3_:=Aside0.mk ((by rw [hg];exact (below_size HB.out):w.heap.size ≤ gb161));have n4_:=Aside0.mk ((by rw [hg];exact (below_size HB.out):w.heap.size ≤ gb161));have n5_:=Aside0.mk ((by rw [hg];exact Nat.ne_of_lt (blk_lt BK158.out):gb158 ≠ gb161));have n6_:=Aside0.mk ((by rw [hg];exact Nat.ne_of_gt (blk_lt BK158.out):gb161 ≠ gb158));clear BK158;clear HB;have BK158:=n0_;have HB:=n1_;have BK161:=n2_;have GW161:=n3_;have GE161:=n4_;have NB158_161:=n5_;have NB161_158:=n6_;clear n0_ n1_ n2_ n3_ n4_ n5_ n6_;clear hb hbox hg;have hnb44:=NB161_158.out;have hnc44:=NB158_161.out;have hcz45_0:w43.cell? ⟨gb161,0,none⟩ = some (.int .i64 0):=(blk_cell BK161.out 0).trans rfl;have hcz45_1:w43.cell? ⟨gb161,1,none⟩ = some (.int .i64 0):=(blk_cell BK161.out 1).trans rfl;have hcz45_2:w43.cell? ⟨gb161,2,none⟩ = some (.slice none 0 0):=(blk_cell BK161.out 2).trans rfl;have hcz45_3:w43.cell? ⟨gb161,3,none⟩ = some (.slice none 0 0):=(blk_cell BK161.out 3).trans rfl;have hfz45_0:=blk_frozen BK161.out 0;have hfz45_1:=blk_frozen BK161.out 1;have hfz45_2:=blk_frozen BK161.out 2;have hfz45_3:=blk_frozen BK161.out 3;have hcz46_0:w43.cell? ⟨gb158,0,none⟩ = some (.int .i64 ((rd_T95 l0 x11_1).f0)):=(blk_cell BK158.out 0).trans rfl;have hcz46_1:w43.cell? ⟨gb158,1,none⟩ = some (.int .i64 ((rd_T95 l0 x11_1).f1)):=(blk_cell BK158.out 1).trans rfl;have hcz46_2:w43.cell? ⟨gb158,2,none⟩ = some (.slice A157_2 ((rd_T95 l0 x11_1).f2).length c157_2):=(blk_cell BK158.out 2).trans rfl;have hcz46_3:w43.cell? ⟨gb158,3,none⟩ = some (.slice A157_3 ((rd_T95 l0 x11_1).f3).length c157_3):=(blk_cell BK158.out 3).trans rfl;have hfz46_0:=blk_frozen BK158.out 0;have hfz46_1:=blk_frozen BK158.out 1;have hfz46_2:=blk_frozen BK158.out 2;have hfz46_3:=blk_frozen BK158.out 3))
              go_ret
              exact ⟨by rfl,by repeat ((with_reducible first | exact HB.out | refine below_set ?_ GE161.out))⟩
             ·rw [if_neg c42] at H
              have c42b0:(((rd_T95 l0 x11_1).f0) == 1) = false:=beq_eq_false_iff_ne.mpr c42
              have c42b1:(((rd_T95 l0 x11_1).f0) != 1) = true:=bne_iff_ne.mpr c42
              have H':=Aside0.mk H
              clear H
              have p160:0 ≤ ((ji12):Int):=of_decide_eq_true (by assumption)
              have q160:(ji12) < (l0.length:Int):=of_decide_eq_true (by assumption)
              obtain ⟨ad160,A160_2,c160_2,A160_3,c160_3,e160,hx160_0,hx160_1,hx160_2,hx160_3,hl160_2,hi160_2,hl160_3,hi160_3⟩:=at_T95 HR0.out (ji12) p160 q160
              obtain rfl:ad157 = ad160:=(by injection e160)
              replace hx160_0:=(HB.out.cell (World.block_lt_of_cell? w _ hx160_0)).trans hx160_0
              replace hx160_1:=(HB.out.cell (World.block_lt_of_cell? w _ hx160_1)).trans hx160_1
              replace hx160_2:=(HB.out.cell (World.block_lt_of_cell? w _ hx160_2)).trans hx160_2
              replace hx160_3:=(HB.out.cell (World.block_lt_of_cell? w _ hx160_3)).trans hx160_3
              have HR160_2:=Aside0.mk hi160_2
              have HC160_2:=Aside0.mk hl160_2
              clear hi160_2 hl160_2
              have HR160_3:=Aside0.mk hi160_3
              have HC160_3:=Aside0.mk hl160_3
              clear hi160_3 hl160_3
              replace p160:=eq_true p160
              replace q160:=eq_true q160
              go_wp2_with (((with_reducible refine gate_dst (N:=8) rfl ?_);refine box_event ?hg (N:=8) ?hd (cs:=#[.int .i64 0,.int .i64 0,.slice none 0 0,.slice none 0 0]) (t:=95) ?hr ?_;(case hd=>rfl);(case hg=>rfl);(case hr=>(go_simp;done));intro gb161 hg w47 hbox hb;have n0_:=Aside0.mk (blk_below BK158.out hb);have n1_:=Aside0.mk (below_step HB.out hb);have n2_:=Aside0.mk hbox;have n3_:=Aside0.mk ((by rw [hg];exact (below_size HB.out):w.heap.size ≤ gb161));have n4_:=Aside0.mk ((by rw [hg];exact (below_size HB.out):w.heap.size ≤ gb161));have n5_:=Aside0.mk ((by rw [hg];exact Nat.ne_of_lt (blk_lt BK158.out):gb158 ≠ gb161));have n6_:=Aside0.mk ((by rw [hg];exact Nat.ne_of_gt (blk_lt BK158.out):gb161 ≠ gb158));clear BK158;clear HB;have BK158:=n0_;have HB:=n1_;have BK161:=n2_;have GW161:=n3_;have GE161:=n4_;have NB158_161:=n5_;have NB161_158:=n6_;clear n0_ n1_ n2_ n3_ n4_ n5_ n6_;clear hb hbox hg;have hnb48:=NB161_158.out;have hnc48:=NB158_161.out;have hcz49_0:w47.cell? ⟨gb161,0,none⟩ = some (.int .i64 0):=(blk_cell BK161.out 0).trans rfl;have hcz49_1:w47.cell? ⟨gb161,1,none⟩ = some (.int .i64 0):=(blk_cell BK161.out 1).trans rfl;have hcz49_2:w47.cell? ⟨gb161,2,none⟩ = some (.slice none 0 0):=(blk_cell BK161.out 2).trans rfl;have hcz49_3:w47.cell? ⟨gb161,3,none⟩ = some (.slice none 0 0):=(blk_cell BK161.out 3).trans rfl;have hfz49_0:=blk_frozen BK161.out 0;have hfz49_1:=blk_frozen BK161.out 1;have hfz49_2:=blk_frozen BK161.out 2;have hfz49_3:=blk_frozen BK161.out 3;have hcz50_0:w47.cell? ⟨gb158,0,none⟩ = some (.int .i64 ((rd_T95 l0 x11_1).f0)):=(blk_cell BK158.out 0).trans rfl;have hcz50_1:w47.cell? ⟨gb158,1,none⟩ = some (.int .i64 ((rd_T95 l0 x11_1).f1)):=(blk_cell BK158.out 1).trans rfl;have hcz50_2:w47.cell? ⟨gb158,2,none⟩ = some (.slice A157_2 ((rd_T95 l0 x11_1).f2).length c157_2):=(blk_cell BK158.out 2).trans rfl;have hcz50_3:w47.cell? ⟨gb158,3,none⟩ = some (.slice A157_3 ((rd_T95 l0 x11_1).f3).length c157_3):=(blk_cell BK158.out 3).trans rfl;have hfz50_0:=blk_frozen BK158.out 0;have hfz50_1:=blk_frozen BK158.out 1;have hfz50_2:=blk_frozen BK158.out 2;have hfz50_3:=blk_frozen BK158.out 3))
              go_meet
              case rel=>exact ⟨_,H',⟨by have:=HK1.out;omega⟩,⟨by (with_reducible repeat (first | refine blk_drewN ?_ _ | refine blk_drew ?_ | refine blk_alloc ?_ _));refine blk_far ?_ NB158_161.out _;(with_reducible repeat (first | refine blk_drewN ?_ _ | refine blk_drew ?_ | refine blk_alloc ?_ _));refine blk_far ?_ NB158_161.out _;(with_reducible repeat (first | refine blk_drewN ?_ _ | refine blk_drew ?_ | refine blk_alloc ?_ _));refine blk_far ?_ NB158_161.out _;(with_reducible repeat (first | refine blk_drewN ?_ _ | refine blk_drew ?_ | refine blk_alloc ?_ _));refine blk_far ?_ NB158_161.out _;exact BK158.out⟩,⟨by repeat ((with_reducible first | exact HB.out | refine below_set ?_ GE161.out))⟩⟩
            ·rw [if_neg c41] at H
             have c41b0:(((rd_T95 l0 (ji12)).f0) == 2) = false:=beq_eq_false_iff_ne.mpr c41
             have c41b1:(((rd_T95 l0 (ji12)).f0) != 2) = true:=bne_iff_ne.mpr c41
             have H':=Aside0.mk H
             clear H
             have p160:0 ≤ ((ji12):Int):=of_decide_eq_true (by assumption)
             have q160:(ji12) < (l0.length:Int):=of_decide_eq_true (by assumption)
             obtain ⟨ad160,A160_2,c160_2,A160_3,c160_3,e160,hx160_0,hx160_1,hx160_2,hx160_3,hl160_2,hi160_2,hl160_3,hi160_3⟩:=at_T95 HR0.out (ji12) p160 q160
             obtain rfl:ad157 = ad160:=(by injection e160)
             replace hx160_0:=(HB.out.cell (World.block_lt_of_cell? w _ hx160_0)).trans hx160_0
             replace hx160_1:=(HB.out.cell (World.block_lt_of_cell? w _ hx160_1)).trans hx160_1
             replace hx160_2:=(HB.out.cell (World.block_lt_of_cell? w _ hx160_2)).trans hx160_2
             replace hx160_3:=(HB.out.cell (World.block_lt_of_cell? w _ hx160_3)).trans hx160_3
             have HR160_2:=Aside0.mk hi160_2
             have HC160_2:=Aside0.mk hl160_2
             clear hi160_2 hl160_2
             have HR160_3:=Aside0.mk hi160_3
             have HC160_3:=Aside0.mk hl160_3
             clear hi160_3 hl160_3
             replace p160:=eq_true p160
             replace q160:=eq_true q160
             go_wp2_with (((with_reducible refine gate_dst (N:=8) rfl ?_);refine box_event ?hg (N:=8) ?hd (cs:=#[.int .i64 0,.int .i64 0,.slice none 0 0,.slice none 0 0]) (t:=95) ?hr ?_;(case hd=>rfl);(case hg=>rfl);(case hr=>(go_simp;done));intro gb161 hg w51 hbox hb;have n0_:=Aside0.mk (blk_below BK158.out hb);have n1_:=Aside0.mk (below_step HB.out hb);have n2_:=Aside0.mk hbox;have n3_:=Aside0.mk ((by rw [hg];exact (below_size HB.out):w.heap.size ≤ gb161));have n4_:=Aside0.mk ((by rw [hg];exact (below_size HB.out):w.heap.size ≤ gb161));have n5_:=Aside0.mk ((by rw [hg];exact Nat.ne_of_lt (blk_lt BK158.out):gb158 ≠ gb161));have n6_:=Aside0.mk ((by rw [hg];exact Nat.ne_of_gt (blk_lt BK158.out):gb161 ≠ gb158));clear BK158;clear HB;have BK158:=n0_;have HB:=n1_;have BK161:=n2_;have GW161:=n3_;have GE161:=n4_;have NB158_161:=n5_;have NB161_158:=n6_;clear n0_ n1_ n2_ n3_ n4_ n5_ n6_;clear hb hbox hg;have hnb52:=NB161_158.out;have hnc52:=NB158_161.out;have hcz53_0:w51.cell? ⟨gb161,0,none⟩ = some (.int .i64 0):=(blk_cell BK161.out 0).trans rfl;have hcz53_1:w51.cell? ⟨gb161,1,none⟩ = some (.int .i64 0):=(blk_cell BK161.out 1).trans rfl;have hcz53_2:w51.cell? ⟨gb161,2,none⟩ = some (.slice none 0 0):=(blk_cell BK161.out 2).trans rfl;have hcz53_3:w51.cell? ⟨gb161,3,none⟩ = some (.slice none 0 0):=(blk_cell BK161.out 3).trans rfl;have hfz53_0:=blk_frozen BK161.out 0;have hfz53_1:=blk_frozen BK161.out 1;have hfz53_2:=blk_frozen BK161.out 2;have hfz53_3:=blk_frozen BK161.out 3;have hcz54_0:w51.cell? ⟨gb158,0,none⟩ = some (.int .i64 ((rd_T95 l0 x11_1).f0)):=(blk_cell BK158.out 0).trans rfl;have hcz54_1:w51.cell? ⟨gb158,1,none⟩ = some (.int .i64 ((rd_T95 l0 x11_1).f1)):=(blk_cell BK158.out 1).trans rfl;have hcz54_2:w51.cell? ⟨gb158,2,none⟩ = some (.slice A157_2 ((rd_T95 l0 x11_1).f2).length c157_2):=(blk_cell BK158.out 2).trans rfl;have hcz54_3:w51.cell? ⟨gb158,3,none⟩ = some (.slice A157_3 ((rd_T95 l0 x11_1).f3).length c157_3):=(blk_cell BK158.out 3).trans rfl;have hfz54_0:=blk_frozen BK158.out 0;have hfz54_1:=blk_frozen BK158.out 1;have hfz54_2:=blk_frozen BK158.out 2;have hfz54_3:=blk_frozen BK158.out 3))
             go_meet
             case rel=>exact ⟨_,H',⟨by have:=HK1.out;omega⟩,⟨by (with_reducible repeat (first | refine blk_drewN ?_ _ | refine blk_drew ?_ | refine blk_alloc ?_ _));refine blk_far ?_ NB158_161.out _;(with_reducible repeat (first | refine blk_drewN ?_ _ | refine blk_drew ?_ | refine blk_alloc ?_ _));refine blk_far ?_ NB158_161.out _;(with_reducible repeat (first | refine blk_drewN ?_ _ | refine blk_drew ?_ | refine blk_alloc ?_ _));refine blk_far ?_ NB158_161.out _;(with_reducible repeat (first | refine blk_drewN ?_ _ | refine blk_drew ?_ | refine blk_alloc ?_ _));refine blk_far ?_ NB158_161.out _;exact BK158.out⟩,⟨by repeat ((with_reducible first | exact HB.out | refine below_set ?_ GE161.out))⟩⟩
          ·rw [if_neg c14] at H
           exact absurd H (by simp)
         ·rw [if_neg c13] at H
          exact absurd H (by simp)
        ·rw [if_neg c11] at H
         have c11b0:decide (0 < x11_1) = false:=decide_eq_false c11
         clear c11
         (rw [c11b0])
         have H':=Aside0.mk H
         clear H
         go_wp2
         go_meet
         case rel=>exact ⟨_,H',⟨by have:=HK1.out;omega⟩,⟨by exact BK158.out⟩,⟨HB.out⟩⟩
       case rest =>
        clear HC7
        try clear c2b0
        try clear c3b0
        try clear c4b0
        try clear c6b0
        try clear c6b1
        try clear hcz9_0
        try clear hcz9_1
        try clear hcz9_2
        try clear hcz9_3
        try clear hfz9_0
        try clear hfz9_1
        try clear hfz9_2
        try clear hfz9_3
        try clear hx157_0
        try clear hx157_1
        try clear hx157_2
        try clear hx157_3
        try clear p157
        try clear q157
        obtain ⟨kq,HA,HJ6,BK158,HB⟩:=hcut
        cases kq with
        | zero=>exact absurd HA.out (by simp [delta_Check.j1])
        | succ kj6 =>
         have H:=HA.out
         clear HA
         simp only [delta_Check.j1] at H
         by_cases c55:((rd_T95 l0 x11_1).f0) = 1
         ·rw [if_pos c55] at H
          have c55b0:(((rd_T95 l0 x11_1).f0) == 1) = true:=beq_iff_eq.mpr c55
          have c55b1:(((rd_T95 l0 x11_1).f0) != 1) = false:=bne_eq_false_iff_eq.mpr c55
          clear c55
          by_cases c56:((rd_T95 l0 x11_1).f0) = 2
          ·rw [if_pos c56] at H
           have c56b0:(((rd_T95 l0 x11_1).f0) == 2) = true:=beq_iff_eq.mpr c56
           have c56b1:(((rd_T95 l0 x11_1).f0) != 2) = false:=bne_eq_false_iff_eq.mpr c56
           clear c56
           have H':=Aside0.mk H
           clear H
           have hcz57_0:wc.cell? ⟨gb158,0,none⟩ = some (.int .i64 ((rd_T95 l0 x11_1).f0)):=(blk_cell BK158.out 0).trans rfl
           have hcz57_1:wc.cell? ⟨gb158,1,none⟩ = some (.int .i64 ((rd_T95 l0 x11_1).f1)):=(blk_cell BK158.out 1).trans rfl
           have hcz57_2:wc.cell? ⟨gb158,2,none⟩ = some (.slice A157_2 ((rd_T95 l0 x11_1).f2).length c157_2):=(blk_cell BK158.out 2).trans rfl
           have hcz57_3:wc.cell? ⟨gb158,3,none⟩ = some (.slice A157_3 ((rd_T95 l0 x11_1).f3).length c157_3):=(blk_cell BK158.out 3).trans rfl
           have hfz57_0:=blk_frozen BK158.out 0
           have hfz57_1:=blk_frozen BK158.out 1
           have hfz57_2:=blk_frozen BK158.out 2
           have hfz57_3:=blk_frozen BK158.out 3
           go_wp2
           go_roundg kj6
           case measure=>have:=HK1.out;have:=HJ6.out;omega
           case rel=>exact ⟨(x3_1),(x4_1),(wrap64 (x11_1 + 1)),(by rfl),(by rfl),(by rfl),H',⟨by have:=HK1.out;have:=HJ6.out;omega⟩,⟨HB.out⟩⟩
          ·rw [if_neg c56] at H
           have c56b0:(((rd_T95 l0 x11_1).f0) == 2) = false:=beq_eq_false_iff_ne.mpr c56
           have c56b1:(((rd_T95 l0 x11_1).f0) != 2) = true:=bne_iff_ne.mpr c56
           replace H:=Option.bind_eq_some_iff.mp H
           obtain ⟨t163,A580,H⟩:=H
           replace H:(delta_Check.l0 kj6 l0 x3_1 (mn (wrap64 (x4_1 + t163)) 2147483648) l0 (l0.length:Int) (wrap64 (x11_1 + 1))) = some r:=H
           have A58:=Aside0.mk A580
           clear A580
           obtain ⟨ji59,hji59⟩:∃ j_:Int,(mn (wrap64 (x4_1 + t163)) 2147483648) = j_:=⟨_,rfl⟩
           replace H:(delta_Check.l0 kj6 l0 x3_1 ji59 l0 (l0.length:Int) (wrap64 (x11_1 + 1))) = some r:=by (rw [hji59] at H;exact H)
           (try rw [hji59] at A58)
           have hji59_:(if 2147483648 < (wrap64 (x4_1 + t163)) then 2147483648 else (wrap64 (x4_1 + t163))) = ji59:=hji59
           have H':=Aside0.mk H
           clear H
           have hcz60_0:wc.cell? ⟨gb158,0,none⟩ = some (.int .i64 ((rd_T95 l0 x11_1).f0)):=(blk_cell BK158.out 0).trans rfl
           have hcz60_1:wc.cell? ⟨gb158,1,none⟩ = some (.int .i64 ((rd_T95 l0 x11_1).f1)):=(blk_cell BK158.out 1).trans rfl
           have hcz60_2:wc.cell? ⟨gb158,2,none⟩ = some (.slice A157_2 ((rd_T95 l0 x11_1).f2).length c157_2):=(blk_cell BK158.out 2).trans rfl
           have hcz60_3:wc.cell? ⟨gb158,3,none⟩ = some (.slice A157_3 ((rd_T95 l0 x11_1).f3).length c157_3):=(blk_cell BK158.out 3).trans rfl
           have hfz60_0:=blk_frozen BK158.out 0
           have hfz60_1:=blk_frozen BK158.out 1
           have hfz60_2:=blk_frozen BK158.out 2
           have hfz60_3:=blk_frozen BK158.out 3
           go_wp2_with (((with_reducible refine gate_callee (f:=68) rfl ?_);refine goesL_ (some 68) rfl rfl Try.func68 (by kernel_rfl) rfl #[.agg #[.int .i64 ((rd_T95 l0 x11_1).f0),.int .i64 ((rd_T95 l0 x11_1).f1),.slice A157_2 ((rd_T95 l0 x11_1).f2).length c157_2,.slice A157_3 ((rd_T95 l0 x11_1).f3).length c157_3]] rfl (by (try simp only [List.map_toArray,List.map_cons,List.map_nil]);rfl) ?_;(with_reducible refine (delta_size.calls ((rd_T95 l0 x11_1).f0) ((rd_T95 l0 x11_1).f1) _ _ ((rd_T95 l0 x11_1).f2) _ _ ((rd_T95 l0 x11_1).f3) t163 _ ?side1 ?side2 ?side3 ?side4 A58.out).mono ?_);(case side1=>repeat (exact (Kd.C_below HR157_2.out HB.out)));(case side2=>exact HC157_2.out);(case side3=>repeat (exact (Kd.C_below HR157_3.out HB.out)));(case side4=>exact HC157_3.out);rintro e w61 ⟨rfl,hb⟩;refine ⟨_,rfl,?_⟩;have n0_:=Aside0.mk (blk_below BK158.out hb);have n1_:=Aside0.mk (below_step HB.out hb);clear BK158;clear HB;have BK158:=n0_;have HB:=n1_;clear n0_ n1_;(try clear hb);(try clear hb2);(try clear hk);(try clear hi)))
           go_roundg kj6
           case measure=>have:=HK1.out;have:=HJ6.out;omega
           case rel=>exact ⟨(x3_1),(ji59),(wrap64 (x11_1 + 1)),(by rfl),(by rfl),(by rfl),H',⟨by have:=HK1.out;have:=HJ6.out;omega⟩,⟨HB.out⟩⟩
         ·rw [if_neg c55] at H
          have c55b0:(((rd_T95 l0 x11_1).f0) == 1) = false:=beq_eq_false_iff_ne.mpr c55
          have c55b1:(((rd_T95 l0 x11_1).f0) != 1) = true:=bne_iff_ne.mpr c55
          obtain ⟨ji62,hji62⟩:∃ j_:Int,(mn (wrap64 (x3_1 + ((rd_T95 l0 x11_1).f1))) 2147483648) = j_:=⟨_,rfl⟩
          replace H:(if ((rd_T95 l0 x11_1).f0) = 2 then (delta_Check.l0 kj6 l0 ji62 x4_1 l0 (l0.length:Int) (wrap64 (x11_1 + 1))) else ((delta_size.f ((rd_T95 l0 x11_1).f0) ((rd_T95 l0 x11_1).f1) ((rd_T95 l0 x11_1).f2) ((rd_T95 l0 x11_1).f3)).bind fun t164=>(delta_Check.l0 kj6 l0 ji62 (mn (wrap64 (x4_1 + t164)) 2147483648) l0 (l0.length:Int) (wrap64 (x11_1 + 1))))) = some r:=by (rw [hji62] at H;exact H)
          have hji62_:(if 2147483648 < (wrap64 (x3_1 + ((rd_T95 l0 x11_1).f1))) then 2147483648 else (wrap64 (x3_1 + ((rd_T95 l0 x11_1).f1)))) = ji62:=hji62
          by_cases c63:((rd_T95 l0 x11_1).f0) = 2
          ·rw [if_pos c63] at H
           have c63b0:(((rd_T95 l0 x11_1).f0) == 2) = true:=beq_iff_eq.mpr c63
           have c63b1:(((rd_T95 l0 x11_1).f0) != 2) = false:=bne_eq_false_iff_eq.mpr c63
           clear c63
           have H':=Aside0.mk H
           clear H
           have hcz64_0:wc.cell? ⟨gb158,0,none⟩ = some (.int .i64 ((rd_T95 l0 x11_1).f0)):=(blk_cell BK158.out 0).trans rfl
           have hcz64_1:wc.cell? ⟨gb158,1,none⟩ = some (.int .i64 ((rd_T95 l0 x11_1).f1)):=(blk_cell BK158.out 1).trans rfl
           have hcz64_2:wc.cell? ⟨gb158,2,none⟩ = some (.slice A157_2 ((rd_T95 l0 x11_1).f2).length c157_2):=(blk_cell BK158.out 2).trans rfl
           have hcz64_3:wc.cell? ⟨gb158,3,none⟩ = some (.slice A157_3 ((rd_T95 l0 x11_1).f3).length c157_3):=(blk_cell BK158.out 3).trans rfl
           have hfz64_0:=blk_frozen BK158.out 0
           have hfz64_1:=blk_frozen BK158.out 1
           have hfz64_2:=blk_frozen BK158.out 2
           have hfz64_3:=blk_frozen BK158.out 3
           go_wp2
           go_roundg kj6
           case measure=>have:=HK1.out;have:=HJ6.out;omega
           case rel=>exact ⟨(ji62),(x4_1),(wrap64 (x11_1 + 1)),(by rfl),(by rfl),(by rfl),H',⟨by have:=HK1.out;have:=HJ6.out;omega⟩,⟨HB.out⟩⟩
          ·rw [if_neg c63] at H
           have c63b0:(((rd_T95 l0 x11_1).f0) == 2) = false:=beq_eq_false_iff_ne.mpr c63
           have c63b1:(((rd_T95 l0 x11_1).f0) != 2) = true:=bne_iff_ne.mpr c63
           replace H:=Option.bind_eq_some_iff.mp H
           obtain ⟨t164,A650,H⟩:=H
           replace H:(delta_Check.l0 kj6 l0 ji62 (mn (wrap64 (x4_1 + t164)) 2147483648) l0 (l0.length:Int) (wrap64 (x11_1 + 1))) = some r:=H
           have A65:=Aside0.mk A650
           clear A650
           obtain ⟨ji66,hji66⟩:∃ j_:Int,(mn (wrap64 (x4_1 + t164)) 2147483648) = j_:=⟨_,rfl⟩
           replace H:(delta_Check.l0 kj6 l0 ji62 ji66 l0 (l0.length:Int) (wrap64 (x11_1 + 1))) = some r:=by (rw [hji66] at H;exact H)
           (try rw [hji66] at A65)
           have hji66_:(if 2147483648 < (wrap64 (x4_1 + t164)) then 2147483648 else (wrap64 (x4_1 + t164))) = ji66:=hji66
           have H':=Aside0.mk H
           clear H
           have hcz67_0:wc.cell? ⟨gb158,0,none⟩ = some (.int .i64 ((rd_T95 l0 x11_1).f0)):=(blk_cell BK158.out 0).trans rfl
           have hcz67_1:wc.cell? ⟨gb158,1,none⟩ = some (.int .i64 ((rd_T95 l0 x11_1).f1)):=(blk_cell BK158.out 1).trans rfl
           have hcz67_2:wc.cell? ⟨gb158,2,none⟩ = some (.slice A157_2 ((rd_T95 l0 x11_1).f2).length c157_2):=(blk_cell BK158.out 2).trans rfl
           have hcz67_3:wc.cell? ⟨gb158,3,none⟩ = some (.slice A157_3 ((rd_T95 l0 x11_1).f3).length c157_3):=(blk_cell BK158.out 3).trans rfl
           have hfz67_0:=blk_frozen BK158.out 0
           have hfz67_1:=blk_frozen BK158.out 1
           have hfz67_2:=blk_frozen BK158.out 2
           have hfz67_3:=blk_frozen BK158.out 3
           go_wp2_with (((with_reducible refine gate_callee (f:=68) rfl ?_);refine goesL_ (some 68) rfl rfl Try.func68 (by kernel_rfl) rfl #[.agg #[.int .i64 ((rd_T95 l0 x11_1).f0),.int .i64 ((rd_T95 l0 x11_1).f1),.slice A157_2 ((rd_T95 l0 x11_1).f2).length c157_2,.slice A157_3 ((rd_T95 l0 x11_1).f3).length c157_3]] rfl (by (try simp only [List.map_toArray,List.map_cons,List.map_nil]);rfl) ?_;(with_reducible refine (delta_size.calls ((rd_T95 l0 x11_1).f0) ((rd_T95 l0 x11_1).f1) _ _ ((rd_T95 l0 x11_1).f2) _ _ ((rd_T95 l0 x11_1).f3) t164 _ ?side1 ?side2 ?side3 ?side4 A65.out).mono ?_);(case side1=>repeat (exact (Kd.C_below HR157_2.out HB.out)));(case side2=>exact HC157_2.out);(case side3=>repeat (exact (Kd.C_below HR157_3.out HB.out)));(case side4=>exact HC157_3.out);rintro e w68 ⟨rfl,hb⟩;refine ⟨_,rfl,?_⟩;have n0_:=Aside0.mk (blk_below BK158.out hb);have n1_:=Aside0.mk (below_step HB.out hb);clear BK158;clear HB;have BK158:=n0_;have HB:=n1_;clear n0_ n1_;(try clear hb);(try clear hb2);(try clear hk);(try clear hi)))
           go_roundg kj6
           case measure=>have:=HK1.out;have:=HJ6.out;omega
           case rel=>exact ⟨(ji62),(ji66),(wrap64 (x11_1 + 1)),(by rfl),(by rfl),(by rfl),H',⟨by have:=HK1.out;have:=HJ6.out;omega⟩,⟨HB.out⟩⟩
      ·rw [if_neg c6] at H
       have c6b0:(t159 == 0) = false:=beq_eq_false_iff_ne.mpr c6
       have c6b1:(t159 != 0) = true:=bne_iff_ne.mpr c6
       obtain rfl:=Option.some.inj H
       have p157:0 ≤ (x11_1:Int):=of_decide_eq_true (by assumption)
       have q157:x11_1 < (l0.length:Int):=of_decide_eq_true (by assumption)
       obtain ⟨ad157,A157_2,c157_2,A157_3,c157_3,e157,hx157_0,hx157_1,hx157_2,hx157_3,hl157_2,hi157_2,hl157_3,hi157_3⟩:=at_T95 HR0.out x11_1 p157 q157
       cases e157
       replace hx157_0:=(HB.out.cell (World.block_lt_of_cell? w _ hx157_0)).trans hx157_0
       replace hx157_1:=(HB.out.cell (World.block_lt_of_cell? w _ hx157_1)).trans hx157_1
       replace hx157_2:=(HB.out.cell (World.block_lt_of_cell? w _ hx157_2)).trans hx157_2
       replace hx157_3:=(HB.out.cell (World.block_lt_of_cell? w _ hx157_3)).trans hx157_3
       have HR157_2:=Aside0.mk hi157_2
       have HC157_2:=Aside0.mk hl157_2
       clear hi157_2 hl157_2
       have HR157_3:=Aside0.mk hi157_3
       have HC157_3:=Aside0.mk hl157_3
       clear hi157_3 hl157_3
       replace p157:=eq_true p157
       replace q157:=eq_true q157
       go_wp2_with (first | ((with_reducible refine gate_dst (N:=6) rfl ?_);refine box_event ?hg (N:=6) ?hd (cs:=#[.int .i64 0,.int .i64 0,.slice none 0 0,.slice none 0 0]) (t:=95) ?hr ?_;(case hd=>rfl);(case hg=>rfl);(case hr=>(go_simp;done));intro gb158 hg w69 hbox hb;have n0_:=Aside0.mk (below_step (by with_reducible exact HB.out) hb);have n1_:=Aside0.mk hbox;have n2_:=Aside0.mk ((by rw [hg];exact (below_size (by with_reducible exact HB.out)):w.heap.size ≤ gb158));have n3_:=Aside0.mk ((by rw [hg];exact (below_size (by with_reducible exact HB.out)):w.heap.size ≤ gb158));clear HB;have HB:=n0_;have BK158:=n1_;have GW158:=n2_;have GE158:=n3_;clear n0_ n1_ n2_ n3_;clear hb hbox hg;have hcz70_0:w69.cell? ⟨gb158,0,none⟩ = some (.int .i64 0):=(blk_cell BK158.out 0).trans rfl;have hcz70_1:w69.cell? ⟨gb158,1,none⟩ = some (.int .i64 0):=(blk_cell BK158.out 1).trans rfl;have hcz70_2:w69.cell? ⟨gb158,2,none⟩ = some (.slice none 0 0):=(blk_cell BK158.out 2).trans rfl;have hcz70_3:w69.cell? ⟨gb158,3,none⟩ = some (.slice none 0 0):=(blk_cell BK158.out 3).trans rfl;have hfz70_0:=blk_frozen BK158.out 0;have hfz70_1:=blk_frozen BK158.out 1;have hfz70_2:=blk_frozen BK158.out 2;have hfz70_3:=blk_frozen BK158.out 3) | ((with_reducible refine gate_callee (f:=104) rfl ?_);refine goesL_ (some 17) rfl rfl Try.func104 (by kernel_rfl) rfl #[.agg #[.int .i64 ((rd_T95 l0 x11_1).f0),.int .i64 ((rd_T95 l0 x11_1).f1),.slice A157_2 ((rd_T95 l0 x11_1).f2).length c157_2,.slice A157_3 ((rd_T95 l0 x11_1).f3).length c157_3]] rfl (by (try simp only [List.map_toArray,List.map_cons,List.map_nil]);rfl) ?_;(with_reducible refine (delta_step.calls k1 ((rd_T95 l0 x11_1).f0) ((rd_T95 l0 x11_1).f1) _ _ ((rd_T95 l0 x11_1).f2) _ _ ((rd_T95 l0 x11_1).f3) t159 _ ?side1 ?side2 ?side3 ?side4 A5.out).mono ?_);(case side1=>exact Kd.C_below HR157_2.out (by repeat ((with_reducible first | exact HB.out | refine below_set ?_ GE158.out))));(case side2=>exact HC157_2.out);(case side3=>exact Kd.C_below HR157_3.out (by repeat ((with_reducible first | exact HB.out | refine below_set ?_ GE158.out))));(case side4=>exact HC157_3.out);rintro e w71 ⟨rfl,hb⟩;refine ⟨_,rfl,?_⟩;have n0_:=Aside0.mk (blk_below (g:=gb158) (o:=.cells #[.int .i64 ((rd_T95 l0 x11_1).f0),.int .i64 ((rd_T95 l0 x11_1).f1),.slice A157_2 ((rd_T95 l0 x11_1).f2).length c157_2,.slice A157_3 ((rd_T95 l0 x11_1).f3).length c157_3] 95 (0,0)) (by (with_reducible repeat (first | refine blk_drewN ?_ _ | refine blk_drew ?_ | refine blk_alloc ?_ _));refine blk_put (cs:=#[.int .i64 ((rd_T95 l0 x11_1).f0),.int .i64 ((rd_T95 l0 x11_1).f1),.slice A157_2 ((rd_T95 l0 x11_1).f2).length c157_2,.slice none 0 0]) ?_ 3 _ rfl;(with_reducible repeat (first | refine blk_drewN ?_ _ | refine blk_drew ?_ | refine blk_alloc ?_ _));refine blk_put (cs:=#[.int .i64 ((rd_T95 l0 x11_1).f0),.int .i64 ((rd_T95 l0 x11_1).f1),.slice none 0 0,.slice none 0 0]) ?_ 2 _ rfl;(with_reducible repeat (first | refine blk_drewN ?_ _ | refine blk_drew ?_ | refine blk_alloc ?_ _));refine blk_put (cs:=#[.int .i64 ((rd_T95 l0 x11_1).f0),.int .i64 0,.slice none 0 0,.slice none 0 0]) ?_ 1 _ rfl;(with_reducible repeat (first | refine blk_drewN ?_ _ | refine blk_drew ?_ | refine blk_alloc ?_ _));refine blk_put (cs:=#[.int .i64 0,.int .i64 0,.slice none 0 0,.slice none 0 0]) ?_ 0 _ rfl;exact BK158.out) hb);have n1_:=Aside0.mk (below_step (by repeat ((with_reducible first | exact HB.out | refine below_set ?_ GE158.out))) hb);clear BK158;clear HB;have BK158:=n0_;have HB:=n1_;clear n0_ n1_;(try clear hb);(try clear hb2);(try clear hk);(try clear hi)))
       go_ret
       exact ⟨by rfl,HB.out⟩
     ·rw [if_neg c4] at H
      exact absurd H (by simp)
    ·rw [if_neg c3] at H
     exact absurd H (by simp)
   ·rw [if_neg c2] at H
    have c2b0:decide (x11_1 < (l0.length:Int)) = false:=decide_eq_false c2
    clear c2
    by_cases c72:x3_1 > 2147483647
    ·rw [if_pos c72] at H
     have c72b0:decide (2147483647 < x3_1) = true:=decide_eq_true c72
     clear c72
     obtain rfl:=Option.some.inj H
     go_wp2
     go_ret
     exact ⟨by rfl,HB.out⟩
    ·rw [if_neg c72] at H
     have c72b0:decide (2147483647 < x3_1) = false:=decide_eq_false c72
     clear c72
     by_cases c73:x4_1 > 2147483647
     ·rw [if_pos c73] at H
      have c73b0:decide (2147483647 < x4_1) = true:=decide_eq_true c73
      clear c73
      obtain rfl:=Option.some.inj H
      go_wp2
      go_ret
      exact ⟨by rfl,HB.out⟩
     ·rw [if_neg c73] at H
      have c73b0:decide (2147483647 < x4_1) = false:=decide_eq_false c73
      clear c73
      obtain rfl:=Option.some.inj H
      go_wp2
      go_ret
      exact ⟨by rfl,HB.out⟩
end Go.Proofs.Ytlcodfjlbhjkbaa.PDelta
end
section
namespace Go.Proofs.Ytlcodfjlbhjkbaa.PDelta
open Go.RowKit Go.Proofs.YtlcodfjlbhjkbaaW.PrintWords Go.Proofs.YtlcodfjlbhjkbaaW.PrintLast Go.Proofs.YtlcodfjlbhjkbaaW.PrintMore
attribute [local go_sem high] eqA91
def OutIs (w0:World) (B:Nat) (out:List S91) (w:World):Prop :=
 ∃ v,w.heap[B]? = some (.cells #[v] 24 (0,0)) ∧ Kd.R k91 91 w w0.heap.size (fun _=>True) v out ∧ Below w0.heap.size w0 w
theorem OutIs.below {w0 w W:World} {B:Nat} {out:List S91} (h:OutIs w0 B out w) (hb:Below w.heap.size w W):OutIs w0 B out W:=by
 obtain ⟨v,h1,h2,h3⟩:=h
 exact ⟨v,blk_below h1 hb,Kd.R_below h2 hb,below_step h3 hb⟩
theorem own_cell {w0 W w1:World} {B:Nat} {v:Value} {out:List S91} (hv:W.heap[B]? = some (.cells #[v] 24 (0,0))) (hR:Kd.R k91 91 W w0.heap.size (fun _=>True) v out) (hg:W.grownBy w1 v.ownBlock) :
 w1.heap[B]? = some (.cells #[v] 24 (0,0)):=blk_grown hv hg (Kd.R_ne hR hv (by decide))
theorem own_stored {w0 w1:World} {B:Nat} {v v1:Value} {out':List S91} (h0:w0.heap.size ≤ B) (hv:w1.heap[B]? = some (.cells #[v] 24 (0,0))) (hR1:Kd.R k91 91 w1 w0.heap.size (fun _=>True) v1 out') (hB1:Below w0.heap.size w0 w1) :
 OutIs w0 B out' (w1.setCell ⟨B,0,none⟩ v1) :=
 ⟨v1,blk_put hv 0 v1 rfl,Kd.R_set hR1 hv (by decide) 0 v1,below_set hB1 h0⟩
def nil91:S91:=⟨⟨#[]⟩,⟨#[]⟩⟩
def rawV (out:List S91) (x y:S91):List S91:=if y.f0.toList = [] then out ++ [x] else if y.f1.toList = [] then out else out ++ [y]
def changeV (out:List S91) (x y:S91):List S91:=if y.f0.toList = [] then out ++ [⟨x.f0,⟨#[]⟩⟩] else if x.f0.toList = y.f0.toList ∧ x.f1.toList = y.f1.toList then out else out ++ [y]
set_option maxRecDepth 100000 in
set_option maxHeartbeats 2000000 in
theorem raw1a (w0:World) (B:Nat) (out:List S91) (x y:S91) (w:World) (h0:w0.heap.size ≤ B) (h:OutIs w0 B out w) (hl:(out.length + 1) * 32 ≤ 140737488355328) (h1:y.f0.toList = []) :
 Calls Try.prog 145 #[.agg #[.string x.f0,.string x.f1],.agg #[.string y.f0,.string y.f1],.pointer (some ⟨B,0,none⟩)] w fun e w'=>e = .returned (.tuple #[]) ∧ OutIs w0 B (out ++ [x]) w':=by
 obtain ⟨v,hv,hR,hb⟩:=h
 have hu91:=Try.underlying91
 have c1:(y.f0.toList == ([]:List UInt8)) = true:=beq_iff_eq.mpr h1
 clear h1
 have HR:=Aside0.mk hR
 have HB:=Aside0.mk hb
 have HV:=Aside0.mk hv
 have hc0:w.cell? ⟨B,0,none⟩ = some v:=(blk_cell hv 0).trans rfl
 have hB:B < w.heap.size:=blk_lt hv
 have HL:=Aside0.mk hl
 have H0:=Aside0.mk h0
 clear hR hb hv hl h0
 go_enter Try.func145,Try.ntmps145
 go_wp2_with (at_builtin;refine Kd.R_append k91 (w0:=w0) w0.heap.size rfl (.tmp 9) (.tmp 11) 24 91 (.agg #[.string ⟨#[]⟩,.string ⟨#[]⟩]) 32 rfl Try.underlying24 info91 rfl (by decide) (by decide) v out x _ (fun _=>True) (fun _=>False) rfl (by simp [Act.eval]) (k91_mkM _ _ _ _) (fun _ h=>h.elim) (fun _ _=>trivial) (Kd.R_below HR.out (below_alloc (below_alloc (Below.refl _ _) _) _)) (below_step HB.out (below_alloc (below_alloc (Below.refl _ _) _) _)) (below_size (below_step HB.out (below_alloc (below_alloc (Below.refl _ _) _) _))) HL.out ?_)
 intro v1 w1 hR1 hB1 hg hat
 obtain ⟨A1,n1,rfl⟩:=Kd.R_slice hR1
 have hv1:=own_cell (w0:=w0) (blk_below HV.out (below_alloc (below_alloc (Below.refl _ _) _) _)) (Kd.R_below HR.out (below_alloc (below_alloc (Below.refl _ _) _) _)) hg
 have hS:=Aside0.mk (own_stored H0.out hv1 hR1 hB1)
 have hc1:w1.cell? ⟨B,0,none⟩ = some v:=(blk_cell hv1 0).trans rfl
 have hf1:=blk_frozen hv1 0
 clear hv1 hR1 hB1 hg hat
 go_wp2
 go_end0
 exact ⟨rfl,by simpa using hS.out⟩
set_option maxRecDepth 100000 in
set_option maxHeartbeats 2000000 in
theorem raw1b (w0:World) (B:Nat) (out:List S91) (x y:S91) (w:World) (h0:w0.heap.size ≤ B) (h:OutIs w0 B out w) (hl:(out.length + 1) * 32 ≤ 140737488355328) (h1:¬ y.f0.toList = []) (h2:y.f1.toList = []) :
 Calls Try.prog 145 #[.agg #[.string x.f0,.string x.f1],.agg #[.string y.f0,.string y.f1],.pointer (some ⟨B,0,none⟩)] w fun e w'=>e = .returned (.tuple #[]) ∧ OutIs w0 B (out) w':=by
 obtain ⟨v,hv,hR,hb⟩:=h
 have hu91:=Try.underlying91
 have c1:(y.f0.toList == ([]:List UInt8)) = false:=beq_eq_false_iff_ne.mpr h1
 clear h1
 have c2:(!y.f1.toList.isEmpty) = false:=by rw [h2];rfl
 clear h2
 have HR:=Aside0.mk hR
 have HB:=Aside0.mk hb
 have HV:=Aside0.mk hv
 have hc0:w.cell? ⟨B,0,none⟩ = some v:=(blk_cell hv 0).trans rfl
 have hB:B < w.heap.size:=blk_lt hv
 have HL:=Aside0.mk hl
 have H0:=Aside0.mk h0
 clear hR hb hv hl h0
 go_enter Try.func145,Try.ntmps145
 go_wp2
 go_end0
 exact ⟨rfl,v,blk_below HV.out (below_alloc (below_alloc (Below.refl _ _) _) _),Kd.R_below HR.out (below_alloc (below_alloc (Below.refl _ _) _) _),below_step HB.out (below_alloc (below_alloc (Below.refl _ _) _) _)⟩
set_option maxRecDepth 100000 in
set_option maxHeartbeats 2000000 in
theorem raw1c (w0:World) (B:Nat) (out:List S91) (x y:S91) (w:World) (h0:w0.heap.size ≤ B) (h:OutIs w0 B out w) (hl:(out.length + 1) * 32 ≤ 140737488355328) (h1:¬ y.f0.toList = []) (h2:¬ y.f1.toList = []) :
 Calls Try.prog 145 #[.agg #[.string x.f0,.string x.f1],.agg #[.string y.f0,.string y.f1],.pointer (some ⟨B,0,none⟩)] w fun e w'=>e = .returned (.tuple #[]) ∧ OutIs w0 B (out ++ [y]) w':=by
 obtain ⟨v,hv,hR,hb⟩:=h
 have hu91:=Try.underlying91
 have c1:(y.f0.toList == ([]:List UInt8)) = false:=beq_eq_false_iff_ne.mpr h1
 clear h1
 have c2:(!y.f1.toList.isEmpty) = true:=by simpa using h2
 clear h2
 have HR:=Aside0.mk hR
 have HB:=Aside0.mk hb
 have HV:=Aside0.mk hv
 have hc0:w.cell? ⟨B,0,none⟩ = some v:=(blk_cell hv 0).trans rfl
 have hB:B < w.heap.size:=blk_lt hv
 have HL:=Aside0.mk hl
 have H0:=Aside0.mk h0
 clear hR hb hv hl h0
 go_enter Try.func145,Try.ntmps145
 go_wp2_with (at_builtin;refine Kd.R_append k91 (w0:=w0) w0.heap.size rfl (.tmp 17) (.tmp 19) 24 91 (.agg #[.string ⟨#[]⟩,.string ⟨#[]⟩]) 32 rfl Try.underlying24 info91 rfl (by decide) (by decide) v out y _ (fun _=>True) (fun _=>False) rfl (by simp [Act.eval]) (k91_mkM _ _ _ _) (fun _ h=>h.elim) (fun _ _=>trivial) (Kd.R_below HR.out (below_alloc (below_alloc (Below.refl _ _) _) _)) (below_step HB.out (below_alloc (below_alloc (Below.refl _ _) _) _)) (below_size (below_step HB.out (below_alloc (below_alloc (Below.refl _ _) _) _))) HL.out ?_)
 intro v1 w1 hR1 hB1 hg hat
 obtain ⟨A1,n1,rfl⟩:=Kd.R_slice hR1
 have hv1:=own_cell (w0:=w0) (blk_below HV.out (below_alloc (below_alloc (Below.refl _ _) _) _)) (Kd.R_below HR.out (below_alloc (below_alloc (Below.refl _ _) _) _)) hg
 have hS:=Aside0.mk (own_stored H0.out hv1 hR1 hB1)
 have hc1:w1.cell? ⟨B,0,none⟩ = some v:=(blk_cell hv1 0).trans rfl
 have hf1:=blk_frozen hv1 0
 clear hv1 hR1 hB1 hg hat
 go_wp2
 go_end0
 exact ⟨rfl,by simpa using hS.out⟩
set_option maxRecDepth 100000 in
set_option maxHeartbeats 2000000 in
theorem change1a (w0:World) (B:Nat) (out:List S91) (x y:S91) (w:World) (h0:w0.heap.size ≤ B) (h:OutIs w0 B out w) (hl:(out.length + 1) * 32 ≤ 140737488355328) (h1:y.f0.toList = []) :
 Calls Try.prog 121 #[.agg #[.string x.f0,.string x.f1],.agg #[.string y.f0,.string y.f1],.pointer (some ⟨B,0,none⟩)] w fun e w'=>e = .returned (.tuple #[]) ∧ OutIs w0 B (out ++ [⟨x.f0,⟨#[]⟩⟩]) w':=by
 obtain ⟨v,hv,hR,hb⟩:=h
 have hu91:=Try.underlying91
 have c1:(y.f0.toList == ([]:List UInt8)) = true:=beq_iff_eq.mpr h1
 clear h1
 have HR:=Aside0.mk hR
 have HB:=Aside0.mk hb
 have HV:=Aside0.mk hv
 have hc0:w.cell? ⟨B,0,none⟩ = some v:=(blk_cell hv 0).trans rfl
 have hB:B < w.heap.size:=blk_lt hv
 have HL:=Aside0.mk hl
 have H0:=Aside0.mk h0
 clear hR hb hv hl h0
 go_enter Try.func121,Try.ntmps121
 go_wp2_with (at_builtin;refine Kd.R_append k91 (w0:=w0) w0.heap.size rfl (.tmp 9) (.tmp 13) 24 91 (.agg #[.string ⟨#[]⟩,.string ⟨#[]⟩]) 32 rfl Try.underlying24 info91 rfl (by decide) (by decide) v out ⟨x.f0,⟨#[]⟩⟩ _ (fun _=>True) (fun _=>False) rfl (by simp [Act.eval]) (k91_mkM _ _ _ _) (fun _ h=>h.elim) (fun _ _=>trivial) (Kd.R_below HR.out (below_alloc (below_alloc (Below.refl _ _) _) _)) (below_step HB.out (below_alloc (below_alloc (Below.refl _ _) _) _)) (below_size (below_step HB.out (below_alloc (below_alloc (Below.refl _ _) _) _))) HL.out ?_)
 intro v1 w1 hR1 hB1 hg hat
 obtain ⟨A1,n1,rfl⟩:=Kd.R_slice hR1
 have hv1:=own_cell (w0:=w0) (blk_below HV.out (below_alloc (below_alloc (Below.refl _ _) _) _)) (Kd.R_below HR.out (below_alloc (below_alloc (Below.refl _ _) _) _)) hg
 have hS:=Aside0.mk (own_stored H0.out hv1 hR1 hB1)
 have hc1:w1.cell? ⟨B,0,none⟩ = some v:=(blk_cell hv1 0).trans rfl
 have hf1:=blk_frozen hv1 0
 clear hv1 hR1 hB1 hg hat
 go_wp2
 go_end0
 exact ⟨rfl,by simpa using hS.out⟩
set_option maxRecDepth 100000 in
set_option maxHeartbeats 2000000 in
theorem change1b (w0:World) (B:Nat) (out:List S91) (x y:S91) (w:World) (h0:w0.heap.size ≤ B) (h:OutIs w0 B out w) (hl:(out.length + 1) * 32 ≤ 140737488355328) (h1:¬ y.f0.toList = []) (h2:x.f0.toList = y.f0.toList ∧ x.f1.toList = y.f1.toList) :
 Calls Try.prog 121 #[.agg #[.string x.f0,.string x.f1],.agg #[.string y.f0,.string y.f1],.pointer (some ⟨B,0,none⟩)] w fun e w'=>e = .returned (.tuple #[]) ∧ OutIs w0 B (out) w':=by
 obtain ⟨v,hv,hR,hb⟩:=h
 have hu91:=Try.underlying91
 have c1:(y.f0.toList == ([]:List UInt8)) = false:=beq_eq_false_iff_ne.mpr h1
 clear h1
 have c2:(!x.f0.toList == y.f0.toList || !x.f1.toList == y.f1.toList) = false:=by rw [h2.1,h2.2];simp
 clear h2
 have HR:=Aside0.mk hR
 have HB:=Aside0.mk hb
 have HV:=Aside0.mk hv
 have hc0:w.cell? ⟨B,0,none⟩ = some v:=(blk_cell hv 0).trans rfl
 have hB:B < w.heap.size:=blk_lt hv
 have HL:=Aside0.mk hl
 have H0:=Aside0.mk h0
 clear hR hb hv hl h0
 go_enter Try.func121,Try.ntmps121
 go_wp2
 go_end0
 exact ⟨rfl,v,blk_below HV.out (below_alloc (below_alloc (Below.refl _ _) _) _),Kd.R_below HR.out (below_alloc (below_alloc (Below.refl _ _) _) _),below_step HB.out (below_alloc (below_alloc (Below.refl _ _) _) _)⟩
set_option maxRecDepth 100000 in
set_option maxHeartbeats 2000000 in
theorem change1c (w0:World) (B:Nat) (out:List S91) (x y:S91) (w:World) (h0:w0.heap.size ≤ B) (h:OutIs w0 B out w) (hl:(out.length + 1) * 32 ≤ 140737488355328) (h1:¬ y.f0.toList = []) (h2:¬ (x.f0.toList = y.f0.toList ∧ x.f1.toList = y.f1.toList)) :
 Calls Try.prog 121 #[.agg #[.string x.f0,.string x.f1],.agg #[.string y.f0,.string y.f1],.pointer (some ⟨B,0,none⟩)] w fun e w'=>e = .returned (.tuple #[]) ∧ OutIs w0 B (out ++ [y]) w':=by
 obtain ⟨v,hv,hR,hb⟩:=h
 have hu91:=Try.underlying91
 have c1:(y.f0.toList == ([]:List UInt8)) = false:=beq_eq_false_iff_ne.mpr h1
 clear h1
 have c2:(!x.f0.toList == y.f0.toList || !x.f1.toList == y.f1.toList) = true:=by by_cases e1:x.f0.toList = y.f0.toList <;> by_cases e2:x.f1.toList = y.f1.toList <;> simp [e1,e2] ;exact absurd ⟨e1,e2⟩ h2
 clear h2
 have HR:=Aside0.mk hR
 have HB:=Aside0.mk hb
 have HV:=Aside0.mk hv
 have hc0:w.cell? ⟨B,0,none⟩ = some v:=(blk_cell hv 0).trans rfl
 have hB:B < w.heap.size:=blk_lt hv
 have HL:=Aside0.mk hl
 have H0:=Aside0.mk h0
 clear hR hb hv hl h0
 go_enter Try.func121,Try.ntmps121
 go_wp2_with (at_builtin;refine Kd.R_append k91 (w0:=w0) w0.heap.size rfl (.tmp 19) (.tmp 21) 24 91 (.agg #[.string ⟨#[]⟩,.string ⟨#[]⟩]) 32 rfl Try.underlying24 info91 rfl (by decide) (by decide) v out y _ (fun _=>True) (fun _=>False) rfl (by simp [Act.eval]) (k91_mkM _ _ _ _) (fun _ h=>h.elim) (fun _ _=>trivial) (Kd.R_below HR.out (below_alloc (below_alloc (Below.refl _ _) _) _)) (below_step HB.out (below_alloc (below_alloc (Below.refl _ _) _) _)) (below_size (below_step HB.out (below_alloc (below_alloc (Below.refl _ _) _) _))) HL.out ?_)
 intro v1 w1 hR1 hB1 hg hat
 obtain ⟨A1,n1,rfl⟩:=Kd.R_slice hR1
 have hv1:=own_cell (w0:=w0) (blk_below HV.out (below_alloc (below_alloc (Below.refl _ _) _) _)) (Kd.R_below HR.out (below_alloc (below_alloc (Below.refl _ _) _) _)) hg
 have hS:=Aside0.mk (own_stored H0.out hv1 hR1 hB1)
 have hc1:w1.cell? ⟨B,0,none⟩ = some v:=(blk_cell hv1 0).trans rfl
 have hf1:=blk_frozen hv1 0
 clear hv1 hR1 hB1 hg hat
 go_wp2
 go_end0
 exact ⟨rfl,by simpa using hS.out⟩
end Go.Proofs.Ytlcodfjlbhjkbaa.PDelta
end
section
namespace Go.Proofs.Ytlcodfjlbhjkbaa.PDelta
open Go.RowKit Go.Proofs.YtlcodfjlbhjkbaaW.PrintWords Go.Proofs.YtlcodfjlbhjkbaaW.PrintLast Go.Proofs.YtlcodfjlbhjkbaaW.PrintMore
abbrev ltS (x y:S91):Bool:=Op.bytesLess x.f0.toList y.f0.toList
def bothL (V:List S91 → S91 → S91 → List S91) (s:List S91):List S91 → List S91 → List S91
 | [],[]=>s
 | x :: a,[]=>bothL V (V s x z91) a []
 | [],y :: b=>bothL V (V s z91 y) [] b
 | x :: a,y :: b=>if ltS x y = true then bothL V (V s x z91) a (y :: b) else if ltS y x = true then bothL V (V s z91 y) (x :: a) b else bothL V (V s x y) a b
termination_by a b=>a.length + b.length
theorem drop_cons (l:List S91) (i:Nat) (h:i < l.length):l.drop i = rd_T91 l i :: l.drop (i + 1):=by
 rw [List.drop_eq_getElem_cons h]
 simp [rd_T91,List.getD_eq_getElem?_getD,List.getElem?_eq_getElem h]
structure BothAt (V:List S91 → S91 → S91 → List S91) (w0:World) (B:Nat) (a b r:List S91) (i j:Nat) (o:List S91) (w:World):Prop where
 ha:i ≤ a.length
 hb:j ≤ b.length
 out:OutIs w0 B o w
 eq:bothL V o (a.drop i) (b.drop j) = r
 le:(o.length + (a.length - i) + (b.length - j)) * 32 ≤ 140737488355328
section
variable {V:List S91 → S91 → S91 → List S91} {w0 w w':World} {B:Nat} {a b r o:List S91} {i j:Nat}
theorem BothAt.one (h:BothAt V w0 B a b r i j o w) (h1:i < a.length ∨ j < b.length):(o.length + 1) * 32 ≤ 140737488355328:=by
 have:=h.le
 have:=h.ha
 have:=h.hb
 omega
theorem BothAt.left (hV:∀ out x y,(V out x y).length ≤ out.length + 1) (h:BothAt V w0 B a b r i j o w) (h1:i < a.length) (h2:j = b.length ∨ j < b.length ∧ ltS (rd_T91 a i) (rd_T91 b j) = true) (hO:OutIs w0 B (V o (rd_T91 a i) nil91) w') :
 BothAt V w0 B a b r (i + 1) j (V o (rd_T91 a i) nil91) w':=by
 refine ⟨h1,h.hb,hO,?_,?_⟩
 ·rw [← h.eq,drop_cons a i h1]
  rcases h2 with h2 | ⟨h2,h3⟩
  ·rw [List.drop_eq_nil_of_le (by omega:b.length ≤ j)]
   conv=>rhs;rw [bothL.eq_def]
   rfl
  ·rw [drop_cons b j h2]
   conv=>rhs;rw [bothL]
   rw [if_pos h3]
   rfl
 ·have:=hV o (rd_T91 a i) nil91
  have:=h.le
  omega
theorem BothAt.right (hV:∀ out x y,(V out x y).length ≤ out.length + 1) (h:BothAt V w0 B a b r i j o w) (h1:j < b.length) (h2:i = a.length ∨ i < a.length ∧ ltS (rd_T91 a i) (rd_T91 b j) = false ∧ ltS (rd_T91 b j) (rd_T91 a i) = true) (hO:OutIs w0 B (V o nil91 (rd_T91 b j)) w') :
 BothAt V w0 B a b r i (j + 1) (V o nil91 (rd_T91 b j)) w':=by
 refine ⟨h.ha,h1,hO,?_,?_⟩
 ·rw [← h.eq,drop_cons b j h1]
  rcases h2 with h2 | ⟨h2,h3,h4⟩
  ·rw [List.drop_eq_nil_of_le (by omega:a.length ≤ i)]
   conv=>rhs;rw [bothL.eq_def]
   rfl
  ·rw [drop_cons a i h2]
   conv=>rhs;rw [bothL]
   rw [if_neg (by rw [h3];decide),if_pos h4]
   rfl
 ·have:=hV o nil91 (rd_T91 b j)
  have:=h.le
  omega
theorem BothAt.mid (hV:∀ out x y,(V out x y).length ≤ out.length + 1) (h:BothAt V w0 B a b r i j o w) (h1:i < a.length) (h2:j < b.length) (h3:ltS (rd_T91 a i) (rd_T91 b j) = false) (h4:ltS (rd_T91 b j) (rd_T91 a i) = false) (hO:OutIs w0 B (V o (rd_T91 a i) (rd_T91 b j)) w') :
 BothAt V w0 B a b r (i + 1) (j + 1) (V o (rd_T91 a i) (rd_T91 b j)) w':=by
 refine ⟨h1,h2,hO,?_,?_⟩
 ·rw [← h.eq,drop_cons a i h1,drop_cons b j h2]
  conv=>rhs;rw [bothL]
  rw [if_neg (by rw [h3];decide),if_neg (by rw [h4];decide)]
 ·have:=hV o (rd_T91 a i) (rd_T91 b j)
  have:=h.le
  omega
theorem BothAt.done (h:BothAt V w0 B a b r i j o w) (h1:¬ i < a.length) (h2:¬ j < b.length):OutIs w0 B r w:=by
 have e:=h.eq
 rw [List.drop_eq_nil_of_le (by omega),List.drop_eq_nil_of_le (by omega),bothL] at e
 rw [← e]
 exact h.out
end
set_option maxRecDepth 100000 in
set_option maxHeartbeats 8000000 in
theorem both_calls (g:Nat) (hent:∀ (args:Array Value) (w:World),(callFunc g args).run Try.prog w = .ok (.enter g args) w) (V:List S91 → S91 → S91 → List S91)
 (hcl:∀ (w0:World) (B:Nat) (out:List S91) (x y:S91) (w:World),w0.heap.size ≤ B → OutIs w0 B out w → (out.length + 1) * 32 ≤ 140737488355328 →
  Calls Try.prog g #[.agg #[.string x.f0,.string x.f1],.agg #[.string y.f0,.string y.f1],.pointer (some ⟨B,0,none⟩)] w fun e w'=>e = .returned (.tuple #[]) ∧ OutIs w0 B (V out x y) w')
 (hV:∀ out x y,(V out x y).length ≤ out.length + 1)
 (w0:World) (A0:Option Addr) (c0:Nat) (a:List S91) (A1:Option Addr) (c1:Nat) (b:List S91) (B:Nat) (w:World)
 (hr0:Kd.C k91 w0 A0 a.length a) (hr1:Kd.C k91 w0 A1 b.length b) (h0:w0.heap.size ≤ B) (h:OutIs w0 B [] w) (hl:(a.length + b.length) * 32 ≤ 140737488355328) :
 Calls Try.prog 120 #[.slice A0 a.length c0,.slice A1 b.length c1,.func (.func g) #[] #[.pointer (some ⟨B,0,none⟩)]] w fun e w'=>e = .returned (.tuple #[]) ∧ OutIs w0 B (bothL V [] a b) w':=by
 have hu91:=Try.underlying91
 obtain ⟨r,hr⟩:∃ r,r = bothL V [] a b:=⟨_,rfl⟩
 rw [← hr]
 have hs:Aside0 (BothAt V w0 B a b r 0 0 [] w):=⟨⟨Nat.zero_le _,Nat.zero_le _,h,by simpa using hr.symm,by simpa using hl⟩⟩
 have hla:a.length ≤ 4398046511104:=by omega
 have hlb:b.length ≤ 4398046511104:=by omega
 have HR0:=Aside0.mk hr0
 have HR1:=Aside0.mk hr1
 have H0:=Aside0.mk h0
 have HCL:=Aside0.mk hcl
 have HVV:=Aside0.mk hV
 clear hr0 hr1 hr h hl h0 hcl hV
 go_enter Try.func120,Try.ntmps120
 go_wp2
 go_loopg [6,7] (a.length + b.length) (fun m v6 v7 wr=>∃ (i j:Nat) (o:List S91),v6 = .int .i64 i ∧ v7 = .int .i64 j ∧ Aside0 (BothAt V w0 B a b r i j o wr) ∧ Aside0 (m = (a.length - i) + (b.length - j)))
 case atStart=>exact ⟨0,0,[],rfl,rfl,hs,⟨by simp⟩⟩
 case round =>
  clear hs
  obtain ⟨i,j,o,rfl,rfl,HS,HM⟩:=hrel
  obtain ⟨v,hv,hR,hbel⟩:=HS.out.out
  have HB:=Aside0.mk hbel
  clear hv hR hbel
  have hia:=HS.out.ha
  have hjb:=HS.out.hb
  by_cases c1:i < a.length
  ·have f1:decide ((i:Int) < (a.length:Int)) = true:=decide_eq_true (by omega)
   have f1':decide (i < a.length) = true:=decide_eq_true c1
   have f3:((i:Int) == (a.length:Int)) = false:=beq_eq_false_iff_ne.mpr (by omega)
   have f3':(i == a.length) = false:=beq_eq_false_iff_ne.mpr (by omega)
   obtain ⟨ad0,e0,hx0,hx1⟩:=at_T91 HR0.out (i:Int) (by omega) (by omega)
   cases e0
   replace hx0:=(HB.out.cell (World.block_lt_of_cell? w0 _ hx0)).trans hx0
   replace hx1:=(HB.out.cell (World.block_lt_of_cell? w0 _ hx1)).trans hx1
   simp only [Int.toNat_natCast] at hx0 hx1
   by_cases c2:j < b.length
   ·have f2:decide ((j:Int) < (b.length:Int)) = true:=decide_eq_true (by omega)
    have f2':decide (j < b.length) = true:=decide_eq_true c2
    have f4:((j:Int) == (b.length:Int)) = false:=beq_eq_false_iff_ne.mpr (by omega)
    have f4':(j == b.length) = false:=beq_eq_false_iff_ne.mpr (by omega)
    obtain ⟨ad1,e1,hy0,hy1⟩:=at_T91 HR1.out (j:Int) (by omega) (by omega)
    cases e1
    replace hy0:=(HB.out.cell (World.block_lt_of_cell? w0 _ hy0)).trans hy0
    replace hy1:=(HB.out.cell (World.block_lt_of_cell? w0 _ hy1)).trans hy1
    simp only [Int.toNat_natCast] at hy0 hy1
    cases l1:ltS (rd_T91 a i) (rd_T91 b j) with
    | true =>
     go_wp2
     go_quiet (fail)
     go_wp2_with (fail)
     refine (HCL.out w0 B o (rd_T91 a i) (nil91) _ H0.out (HS.out.out.below (pw_below_drewN (Below.refl _ _) _)) (HS.out.one (by omega))).mono ?_
     rintro e w' ⟨rfl,hO'⟩
     have HS':=Aside0.mk (BothAt.left HVV.out HS.out c1 (.inr ⟨c2,l1⟩) hO')
     have hm:(a.length - (i + 1)) + (b.length - j) < gk:=by have:=HM.out;omega
     clear hO' HS HB
     go_wp2
     go_roundg ((a.length - (i + 1)) + (b.length - j))
     case measure=>exact hm
     case rel=>exact ⟨(i + 1),j,_,by rfl,by rfl,HS',⟨rfl⟩⟩
    | false =>
     cases l2:ltS (rd_T91 b j) (rd_T91 a i) with
     | true =>
      go_wp2
      go_quiet (fail)
      go_wp2
      go_quiet (fail)
      go_wp2_with (fail)
      refine (HCL.out w0 B o (nil91) (rd_T91 b j) _ H0.out (HS.out.out.below (pw_below_drewN (Below.refl _ _) _)) (HS.out.one (by omega))).mono ?_
      rintro e w' ⟨rfl,hO'⟩
      have HS':=Aside0.mk (BothAt.right HVV.out HS.out c2 (.inr ⟨c1,l1,l2⟩) hO')
      have hm:(a.length - i) + (b.length - (j + 1)) < gk:=by have:=HM.out;omega
      clear hO' HS HB
      go_wp2
      go_roundg ((a.length - i) + (b.length - (j + 1)))
      case measure=>exact hm
      case rel=>exact ⟨i,(j + 1),_,by rfl,by rfl,HS',⟨rfl⟩⟩
     | false =>
      go_wp2
      go_quiet (fail)
      go_wp2
      go_quiet (fail)
      go_wp2
      refine wp_region_still_tail 9 (by kernel_rfl) (by kernel_rfl) ?_
      simp only [List.take_succ_cons,List.take_zero,List.drop_succ_cons,List.drop_zero]
      change wpStill _ _ (World.drew _) (fun a'=>wpList _ _ _ _ a' (World.drew _)) _ _
      repeat still_step
      refine wpStill_nil ?_
      go_wp2_with (fail)
      refine (HCL.out w0 B o (rd_T91 a i) (rd_T91 b j) _ H0.out (HS.out.out.below (pw_below_drewN (Below.refl _ _) _)) (HS.out.one (by omega))).mono ?_
      rintro e w' ⟨rfl,hO'⟩
      have HS':=Aside0.mk (BothAt.mid HVV.out HS.out c1 c2 l1 l2 hO')
      have hm:(a.length - (i + 1)) + (b.length - (j + 1)) < gk:=by have:=HM.out;omega
      clear hO' HS HB
      go_wp2
      go_roundg ((a.length - (i + 1)) + (b.length - (j + 1)))
      case measure=>exact hm
      case rel=>exact ⟨(i + 1),(j + 1),_,by rfl,by rfl,HS',⟨rfl⟩⟩
   ·obtain rfl:j = b.length:=by omega
    have f4:((b.length:Int) == (b.length:Int)) = true:=beq_iff_eq.mpr rfl
    have f4':(b.length == b.length) = true:=beq_iff_eq.mpr rfl
    go_wp2
    go_quiet (fail)
    go_wp2_with (fail)
    refine (HCL.out w0 B o (rd_T91 a i) (nil91) _ H0.out (HS.out.out.below (pw_below_drewN (Below.refl _ _) _)) (HS.out.one (by omega))).mono ?_
    rintro e w' ⟨rfl,hO'⟩
    have HS':=Aside0.mk (BothAt.left HVV.out HS.out c1 (.inl rfl) hO')
    have hm:(a.length - (i + 1)) + (b.length - b.length) < gk:=by have:=HM.out;omega
    clear hO' HS HB
    go_wp2
    go_roundg ((a.length - (i + 1)) + (b.length - b.length))
    case measure=>exact hm
    case rel=>exact ⟨(i + 1),b.length,_,by rfl,by rfl,HS',⟨rfl⟩⟩
  ·have f1:decide ((i:Int) < (a.length:Int)) = false:=decide_eq_false (by omega)
   have f1':decide (i < a.length) = false:=decide_eq_false c1
   obtain rfl:i = a.length:=by omega
   have f3:((a.length:Int) == (a.length:Int)) = true:=beq_iff_eq.mpr rfl
   have f3':(a.length == a.length) = true:=beq_iff_eq.mpr rfl
   by_cases c2:j < b.length
   ·have f2:decide ((j:Int) < (b.length:Int)) = true:=decide_eq_true (by omega)
    have f2':decide (j < b.length) = true:=decide_eq_true c2
    have f4:((j:Int) == (b.length:Int)) = false:=beq_eq_false_iff_ne.mpr (by omega)
    have f4':(j == b.length) = false:=beq_eq_false_iff_ne.mpr (by omega)
    obtain ⟨ad1,e1,hy0,hy1⟩:=at_T91 HR1.out (j:Int) (by omega) (by omega)
    cases e1
    replace hy0:=(HB.out.cell (World.block_lt_of_cell? w0 _ hy0)).trans hy0
    replace hy1:=(HB.out.cell (World.block_lt_of_cell? w0 _ hy1)).trans hy1
    simp only [Int.toNat_natCast] at hy0 hy1
    go_wp2
    go_quiet (fail)
    go_wp2
    go_quiet (fail)
    go_wp2_with (fail)
    refine (HCL.out w0 B o (nil91) (rd_T91 b j) _ H0.out (HS.out.out.below (pw_below_drewN (Below.refl _ _) _)) (HS.out.one (by omega))).mono ?_
    rintro e w' ⟨rfl,hO'⟩
    have HS':=Aside0.mk (BothAt.right HVV.out HS.out c2 (.inl rfl) hO')
    have hm:(a.length - a.length) + (b.length - (j + 1)) < gk:=by have:=HM.out;omega
    clear hO' HS HB
    go_wp2
    go_roundg ((a.length - a.length) + (b.length - (j + 1)))
    case measure=>exact hm
    case rel=>exact ⟨a.length,(j + 1),_,by rfl,by rfl,HS',⟨rfl⟩⟩
   ·have f2:decide ((j:Int) < (b.length:Int)) = false:=decide_eq_false (by omega)
    have f2':decide (j < b.length) = false:=decide_eq_false c2
    have HD:=Aside0.mk (HS.out.done c1 c2)
    go_wp2
    go_end0
    exact ⟨rfl,by exact HD.out⟩
theorem enters_any {g : Nat} {fn : Func} {c : Code} (hf : Try.prog.funcs[g]? = some fn) (hname : (fn.name == "runtime.NumGoroutine") = false) (hb : fn.body = some c) (args : Array Value) (w : World) :
 (callFunc g args).run Try.prog w = .ok (.enter g args) w:=by
 have h1 : fn.name ≠ "runtime.NumGoroutine" := by simpa using hname
 simp [callFunc,hf,h1,hb,mark]
theorem outis_made (w:World):OutIs w w.heap.size [] (w.alloc (.cells #[.slice none 0 0] 24)) :=
 ⟨.slice none 0 0,blk_new w _,Kd.R_nil _ _ _ _ _,below_alloc (Below.refl _ _) _⟩
theorem raw_any (w0:World) (B:Nat) (out:List S91) (x y:S91) (w:World) (h0:w0.heap.size ≤ B) (h:OutIs w0 B out w) (hl:(out.length + 1) * 32 ≤ 140737488355328) :
 Calls Try.prog 145 #[.agg #[.string x.f0,.string x.f1],.agg #[.string y.f0,.string y.f1],.pointer (some ⟨B,0,none⟩)] w fun e w'=>e = .returned (.tuple #[]) ∧ OutIs w0 B (rawV out x y) w':=by
 by_cases h1:y.f0.toList = []
 ·unfold rawV;rw [if_pos h1];exact raw1a w0 B out x y w h0 h hl h1
 ·by_cases h2:y.f1.toList = []
  ·unfold rawV;rw [if_neg h1,if_pos h2];exact raw1b w0 B out x y w h0 h hl h1 h2
  ·unfold rawV;rw [if_neg h1,if_neg h2];exact raw1c w0 B out x y w h0 h hl h1 h2
theorem rawV_len (out:List S91) (x y:S91):(rawV out x y).length ≤ out.length + 1:=by
 unfold rawV
 repeat (first | split | simp)
def attr_Raw.f (l0 l1:List S91):Option (List S91):=if (l0.length + l1.length) * 32 ≤ 140737488355328 then some (bothL rawV [] l0 l1) else none
set_option maxRecDepth 100000 in
set_option maxHeartbeats 4000000 in
theorem attr_Raw.calls (A0:Option Addr) (c0:Nat) (l0:List (S91)) (A1:Option Addr) (c1:Nat) (l1:List (S91)) (r:List (S91)) (w:World) (hr0:Kd.C k91 w A0 l0.length l0) (hc0:l0.length ≤ c0) (hr1:Kd.C k91 w A1 l1.length l1) (hc1:l1.length ≤ c1) (h:attr_Raw.f l0 l1 = some r) :
 Calls Try.prog 115 #[.slice A0 l0.length c0,.slice A1 l1.length c1] w fun e w'=>∃ v0_:Value,e = .returned (v0_) ∧ Kd.R k91 91 w' w.heap.size (fun _=>True) v0_ r ∧ Below w.heap.size w w':=by
 unfold attr_Raw.f at h
 have hl:(l0.length + l1.length) * 32 ≤ 140737488355328:=by
  by_cases hl:(l0.length + l1.length) * 32 ≤ 140737488355328
  ·exact hl
  ·rw [if_neg hl] at h;cases h
 rw [if_pos hl] at h
 have HC:=Aside0.mk (both_calls 145 (enters_any Try.func145 rfl rfl) rawV raw_any rawV_len w A0 c0 l0 A1 c1 l1 w.heap.size _ hr0 hr1 (Nat.le_refl _) (outis_made w) hl)
 have hmf:∀ (fn:Fn) (first cap:Array Value) (w:World),(Instr.makeFunc fn first cap).run Try.prog w = .ok (.func fn first cap) w:=fun _ _ _ _=>rfl
 have HR:=Aside0.mk (Option.some.inj h)
 clear hr0 hr1 hc0 hc1 hl h
 go_enter Try.func115,Try.ntmps115
 go_wp2_with (go_at_call 120;refine HC.out.mono ?_)
 rintro e w' ⟨rfl,v,hv,hR,hB⟩
 obtain ⟨A2,c2,hv2⟩:=Kd.R_slice hR
 have hc:w'.cell? ⟨w.heap.size,0,none⟩ = some v:=(blk_cell hv 0).trans rfl
 have hR':=Aside0.mk hR
 have hB':=Aside0.mk hB
 rw [hv2] at hc
 have HV:=Aside0.mk hv2
 clear hv hR hB hv2
 go_wp2
 go_ret
 exact ⟨v,by rw [HV.out];rfl,by rw [← HR.out];exact hR'.out,hB'.out⟩
theorem change_any (w0:World) (B:Nat) (out:List S91) (x y:S91) (w:World) (h0:w0.heap.size ≤ B) (h:OutIs w0 B out w) (hl:(out.length + 1) * 32 ≤ 140737488355328) :
 Calls Try.prog 121 #[.agg #[.string x.f0,.string x.f1],.agg #[.string y.f0,.string y.f1],.pointer (some ⟨B,0,none⟩)] w fun e w'=>e = .returned (.tuple #[]) ∧ OutIs w0 B (changeV out x y) w':=by
 by_cases h1:y.f0.toList = []
 ·unfold changeV;rw [if_pos h1];exact change1a w0 B out x y w h0 h hl h1
 ·by_cases h2:x.f0.toList = y.f0.toList ∧ x.f1.toList = y.f1.toList
  ·unfold changeV;rw [if_neg h1,if_pos h2];exact change1b w0 B out x y w h0 h hl h1 h2
  ·unfold changeV;rw [if_neg h1,if_neg h2];exact change1c w0 B out x y w h0 h hl h1 h2
theorem changeV_len (out:List S91) (x y:S91):(changeV out x y).length ≤ out.length + 1:=by
 unfold changeV
 repeat (first | split | simp)
def attr_Change.f (l0 l1:List S91):Option (List S91):=if (l0.length + l1.length) * 32 ≤ 140737488355328 then some (bothL changeV [] l0 l1) else none
set_option maxRecDepth 100000 in
set_option maxHeartbeats 4000000 in
theorem attr_Change.calls (A0:Option Addr) (c0:Nat) (l0:List (S91)) (A1:Option Addr) (c1:Nat) (l1:List (S91)) (r:List (S91)) (w:World) (hr0:Kd.C k91 w A0 l0.length l0) (hc0:l0.length ≤ c0) (hr1:Kd.C k91 w A1 l1.length l1) (hc1:l1.length ≤ c1) (h:attr_Change.f l0 l1 = some r) :
 Calls Try.prog 80 #[.slice A0 l0.length c0,.slice A1 l1.length c1] w fun e w'=>∃ v0_:Value,e = .returned (v0_) ∧ Kd.R k91 91 w' w.heap.size (fun _=>True) v0_ r ∧ Below w.heap.size w w':=by
 unfold attr_Change.f at h
 have hl:(l0.length + l1.length) * 32 ≤ 140737488355328:=by
  by_cases hl:(l0.length + l1.length) * 32 ≤ 140737488355328
  ·exact hl
  ·rw [if_neg hl] at h;cases h
 rw [if_pos hl] at h
 have HC:=Aside0.mk (both_calls 121 (enters_any Try.func121 rfl rfl) changeV change_any changeV_len w A0 c0 l0 A1 c1 l1 w.heap.size _ hr0 hr1 (Nat.le_refl _) (outis_made w) hl)
 have hmf:∀ (fn:Fn) (first cap:Array Value) (w:World),(Instr.makeFunc fn first cap).run Try.prog w = .ok (.func fn first cap) w:=fun _ _ _ _=>rfl
 have HR:=Aside0.mk (Option.some.inj h)
 clear hr0 hr1 hc0 hc1 hl h
 go_enter Try.func80,Try.ntmps80
 go_wp2_with (go_at_call 120;refine HC.out.mono ?_)
 rintro e w' ⟨rfl,v,hv,hR,hB⟩
 obtain ⟨A2,c2,hv2⟩:=Kd.R_slice hR
 have hc:w'.cell? ⟨w.heap.size,0,none⟩ = some v:=(blk_cell hv 0).trans rfl
 have hR':=Aside0.mk hR
 have hB':=Aside0.mk hB
 rw [hv2] at hc
 have HV:=Aside0.mk hv2
 clear hv hR hB hv2
 go_wp2
 go_ret
 exact ⟨v,by rw [HV.out];rfl,by rw [← HR.out];exact hR'.out,hB'.out⟩
end Go.Proofs.Ytlcodfjlbhjkbaa.PDelta
end
section
namespace Go.Proofs.Ytlcodfjlbhjkbaa.PDelta
open Go.RowKit Go.Proofs.YtlcodfjlbhjkbaaW.PrintWords Go.Proofs.YtlcodfjlbhjkbaaW.PrintLast Go.Proofs.YtlcodfjlbhjkbaaW.PrintMore
attribute [local go_sem] max2_int min2_int max_two min_two max_three min_three max_four min_four
attribute [local go_sem high] Go.Proofs.Ytlcodfjlbhjkbaa.Ord.leq_str Go.Proofs.Ytlcodfjlbhjkbaa.Ord.gtr_str Go.Proofs.Ytlcodfjlbhjkbaa.Ord.geq_str
def flow_Copy.l0:Nat → List (S26) → List (S26) → Int → Int → Option ((List (S26)))
 | 0,_,_,_,_=>none
 | k + 1,x3,x9,x10,x11=>if x11 < x10 then (if 0 ≤ x11 then (if x11 < (x9.length:Int) then (if ([]:List (S91)).length + ((rd_T26 x9 x11).f2).length < 4398046511104 then (if x11 < (x3.length:Int) then (flow_Copy.l0 k (x3.set (x11:Int).toNat (⟨(rd_T26 x9 x11).f0,(rd_T26 x9 x11).f1,(([]:List (S91)) ++ ((rd_T26 x9 x11).f2))⟩:S26)) x9 x10 (wrap64 (x11 + 1))) else (none)) else (none)) else (none)) else (none)) else (some x3)
def flow_Copy.f (k:Nat) (l0:List (S26)):Option ((List (S26))):=if 0 ≤ (l0.length:Int) then (if ((l0.length:Int):Int).toNat ≤ 7036874417766 then (flow_Copy.l0 k (List.replicate ((l0.length:Int):Int).toNat z26) l0 (l0.length:Int) 0) else (none)) else (none)
def flow_Copy.T5:Bool × List (List Nat × List Nat):=(true,[([],[]),([],[]),([],[]),([2],[2]),([],[]),([4],[4]),([],[]),([6],[6]),([7],[7]),([3,5,8],[3,5,8]),([0,1,0,1,2,3,4,5,6,7,8,9],[0,1]),([10,9,8,0,1,2,3,4,5,6,7,8,9],[9,10])])
def flow_Copy.B5:List Nat:=[0,0,0,4,0,16,0,64,192,508,1023,2047]
theorem flow_Copy.tab5:rtab .any (opsOf Try.f92 5) = flow_Copy.T5:=by kernel_rfl
theorem flow_Copy.bits5:waitsOk flow_Copy.T5.2 flow_Copy.B5 = true:=by kernel_rfl
set_option maxHeartbeats 8000000 in
set_option maxRecDepth 100000 in
theorem flow_Copy.calls (k:Nat) (A0:Option Addr) (c0:Nat) (l0:List (S26)) (r:List (S26)) (w:World) (hr0:Kd.C k26 w A0 l0.length l0) (hc0:l0.length ≤ c0) (h:flow_Copy.f k l0 = some r) :
 Calls Try.prog 92 #[.slice A0 l0.length c0] w fun e w'=>∃ v0_:Value,e = .returned (v0_) ∧ Kd.N k26 26 w' w.heap.size (fun k_=>(w.heap.size ≤ k_)) v0_ r ∧ Below w.heap.size w w':=by
 have hu26:=Try.underlying26
 have HR0:=Aside0.mk hr0
 have HC0:=Aside0.mk hc0
 clear hr0 hc0
 have HB:=Aside0.mk (Below.refl w.heap.size w)
 have H:(if 0 ≤ (l0.length:Int) then (if ((l0.length:Int):Int).toNat ≤ 7036874417766 then (flow_Copy.l0 k (List.replicate ((l0.length:Int):Int).toNat z26) l0 (l0.length:Int) 0) else (none)) else (none)) = some r:=h
 clear h
 by_cases c2:0 ≤ (l0.length:Int)
 ·rw [if_pos c2] at H
  have c2b0:=eq_true c2
  have c2b1:decide (0 ≤ (l0.length:Int)) = true:=decide_eq_true c2
  clear c2
  by_cases c3:((l0.length:Int):Int).toNat ≤ 7036874417766
  ·rw [if_pos c3] at H
   have c3b0:=eq_true c3
   have c3b1:decide (((l0.length:Int):Int).toNat ≤ 7036874417766) = true:=decide_eq_true c3
   clear c3
   obtain ⟨y182,hy182⟩:∃ y_:List (S26),y_ = (List.replicate ((l0.length:Int):Int).toNat z26):=⟨_,rfl⟩
   replace H:(flow_Copy.l0 k y182 l0 (l0.length:Int) 0) = some r:=by (rw [hy182];with_reducible exact H)
   have Ny182:=Aside0.mk hy182
   clear hy182
   have H':=Aside0.mk H
   clear H
   go_enter Try.func92,Try.ntmps92
   go_wp2_with (((with_reducible refine gate_dst (N:=8) rfl ?_);refine Kd.N_make k26 _ 26 rfl (N':=8) rfl 22 _ _ rfl (l0.length:Int) rfl rfl Try.underlying22 (.agg #[(.int .i64 0),(.int .i64 0),(.slice none 0 0)]) 40 info26 rfl (by decide) (by omega) z26 (ok:=fun k_=>w.heap.size ≤ k_) (okp:=fun _=>False) (k26_mkF _ _ z26 (Nat.le_refl _) (Kd.F_nil _ _ _)) (fun _ hk=>hk.elim) (Nat.le_refl _) (of_decide_eq_true (by assumption)) (Nat.le_trans (Nat.mul_le_mul_right _ (of_decide_eq_true (by assumption):(l0.length:Int).toNat ≤ 7036874417766)) (by omega)) (Below.refl _ _) (Nat.le_refl _) ?_;intro v183 w4 ho5 hb hg_ hnew_;clear hg_ hnew_;(rw [← Ny182.out] at ho5);have n0_:=Aside0.mk (Kd.N_lower (Kd.N_mono (ok':=fun k_=>(w.heap.size ≤ k_)) ho5 (fun k_ hk_=>(Nat.le_trans (below_size (by with_reducible exact HB.out)) hk_))) (below_size (by with_reducible exact HB.out)));have n1_:=Aside0.mk (below_step (by with_reducible exact HB.out) hb);clear HB;have HO184:=n0_;have HB:=n1_;clear n0_ n1_;clear hb ho5))
   go_loopg [11] k (fun kq v11 w'=>∃ (x3_1:List (S26)) (x11_1:Int),v11 = .int .i64 x11_1 ∧ Aside0 (flow_Copy.l0 kq x3_1 l0 (l0.length:Int) x11_1 = some r) ∧ Aside0 (kq ≤ k) ∧ Aside0 (Kd.N k26 26 w' w.heap.size (fun k_=>(w.heap.size ≤ k_)) v183 x3_1) ∧ Aside0 (Below w.heap.size w w'))
   case atStart=>exact ⟨(y182),(0),(by rfl),H',⟨Nat.le_refl _⟩,⟨by exact HO184.out⟩,⟨HB.out⟩⟩
   case round =>
    clear H'
    try clear c2b0
    try clear c2b1
    try clear c3b0
    try clear c3b1
    obtain ⟨x3_1,x11_1,rfl,HA,HK1,HO_3,HB⟩:=hrel
    cases gk with
    | zero=>exact absurd HA.out (by simp [flow_Copy.l0])
    | succ k1 =>
     have H:=HA.out
     clear HA
     simp only [flow_Copy.l0] at H
     by_cases c6:x11_1 < (l0.length:Int)
     ·rw [if_pos c6] at H
      have c6b0:decide (x11_1 < (l0.length:Int)) = true:=decide_eq_true c6
      clear c6
      by_cases c7:0 ≤ x11_1
      ·rw [if_pos c7] at H
       have c7b0:decide (0 ≤ x11_1) = true:=decide_eq_true c7
       clear c7
       by_cases c8:x11_1 < (l0.length:Int)
       ·rw [if_pos c8] at H
        have c8b0:decide (x11_1 < (l0.length:Int)) = true:=decide_eq_true c8
        clear c8
        by_cases c9:([]:List (S91)).length + ((rd_T26 l0 x11_1).f2).length < 4398046511104
        ·rw [if_pos c9] at H
         have LMc9:=Aside0.mk c9
         clear c9
         obtain ⟨y187,hy187⟩:∃ y_:List (S91),y_ = (([]:List (S91)) ++ ((rd_T26 l0 x11_1).f2)):=⟨_,rfl⟩
         replace H:(if x11_1 < (x3_1.length:Int) then (flow_Copy.l0 k1 (x3_1.set (x11_1:Int).toNat (⟨(rd_T26 l0 x11_1).f0,(rd_T26 l0 x11_1).f1,y187⟩:S26)) l0 (l0.length:Int) (wrap64 (x11_1 + 1))) else (none)) = some r:=by (rw [hy187];with_reducible exact H)
         have Ny187:=Aside0.mk hy187
         clear hy187
         by_cases c10:x11_1 < (x3_1.length:Int)
         ·rw [if_pos c10] at H
          have c10b0:decide (x11_1 < (x3_1.length:Int)) = true:=decide_eq_true c10
          clear c10
          obtain ⟨y190,hy190⟩:∃ y_:List (S26),y_ = (x3_1.set (x11_1:Int).toNat (⟨(rd_T26 l0 x11_1).f0,(rd_T26 l0 x11_1).f1,y187⟩:S26)):=⟨_,rfl⟩
          replace H:(flow_Copy.l0 k1 y190 l0 (l0.length:Int) (wrap64 (x11_1 + 1))) = some r:=by (rw [hy190];with_reducible exact H)
          have Ny190:=Aside0.mk hy190
          clear hy190
          have H':=Aside0.mk H
          clear H
          have p185:0 ≤ (x11_1:Int):=of_decide_eq_true (by assumption)
          have q185:x11_1 < (l0.length:Int):=of_decide_eq_true (by assumption)
          obtain ⟨ad185,A185_2,c185_2,e185,hx185_0,hx185_1,hx185_2,hl185_2,hi185_2⟩:=at_T26 HR0.out x11_1 p185 q185
          cases e185
          replace hx185_0:=(HB.out.cell (World.block_lt_of_cell? w _ hx185_0)).trans hx185_0
          replace hx185_1:=(HB.out.cell (World.block_lt_of_cell? w _ hx185_1)).trans hx185_1
          replace hx185_2:=(HB.out.cell (World.block_lt_of_cell? w _ hx185_2)).trans hx185_2
          have HR185_2:=Aside0.mk hi185_2
          have HC185_2:=Aside0.mk hl185_2
          clear hi185_2 hl185_2
          replace p185:=eq_true p185
          replace q185:=eq_true q185
          try go_wp2_with (((with_reducible refine gate_dst (N:=5) rfl ?_);refine box_event ?hg (N:=5) ?hd (cs:=#[.int .i64 0,.int .i64 0,.slice none 0 0]) (t:=26) ?hr ?_;(case hd=>rfl);(case hg=>rfl);(case hr=>(go_simp;done));intro gb186 hg w12 hbox hb;have n0_:=Aside0.mk (Kd.N_below (Kd.N_elderB HO_3.out gb186 (Nat.le_of_eq hg.symm)) hb);have n1_:=Aside0.mk (below_step (by with_reducible exact HB.out) hb);have n2_:=Aside0.mk hbox;have n3_:=Aside0.mk ((by rw [hg];exact (below_size (by with_reducible exact HB.out)):w.heap.size ≤ gb186));have n4_:=Aside0.mk ((by rw [hg];exact (below_size (by with_reducible exact HB.out)):w.heap.size ≤ gb186));clear HO_3;clear HB;have HO_3:=n0_;have HB:=n1_;have BK186:=n2_;have GW186:=n3_;have GE186:=n4_;clear n0_ n1_ n2_ n3_ n4_;clear hb hbox hg;have hcz13_0:w12.cell? ⟨gb186,0,none⟩ = some (.int .i64 0):=(blk_cell BK186.out 0).trans rfl;have hcz13_1:w12.cell? ⟨gb186,1,none⟩ = some (.int .i64 0):=(blk_cell BK186.out 1).trans rfl;have hcz13_2:w12.cell? ⟨gb186,2,none⟩ = some (.slice none 0 0):=(blk_cell BK186.out 2).trans rfl;have hfz13_0:=blk_frozen BK186.out 0;have hfz13_1:=blk_frozen BK186.out 1;have hfz13_2:=blk_frozen BK186.out 2))
          have n0_:Aside0 (Kd.N k26 26 (((w12.setCell ⟨gb186,0,none⟩ (.int .i64 ((rd_T26 l0 x11_1).f0))).setCell ⟨gb186,1,none⟩ (.int .i64 ((rd_T26 l0 x11_1).f1))).setCell ⟨gb186,2,none⟩ (.slice A185_2 ((rd_T26 l0 x11_1).f2).length c185_2)) w.heap.size (fun k_=>(w.heap.size ≤ k_) ∧ k_ ≠ gb186) v183 x3_1):=⟨by exact Kd.N_mono (Kd.N_far (p:=⟨gb186,2,none⟩) (Kd.N_far (p:=⟨gb186,1,none⟩) (Kd.N_far (p:=⟨gb186,0,none⟩) (Kd.N_mono HO_3.out (fun k_ hk=>(⟨hk,hk.2⟩:_ ∧ k_ ≠ gb186))) (fun _ hk=>hk.2) (.int .i64 ((rd_T26 l0 x11_1).f0))) (fun _ hk=>hk.2) (.int .i64 ((rd_T26 l0 x11_1).f1))) (fun _ hk=>hk.2) (.slice A185_2 ((rd_T26 l0 x11_1).f2).length c185_2)) (fun _ hk=>⟨hk.1.1,hk.1.2⟩)⟩
          have n1_:Aside0 ((((w12.setCell ⟨gb186,0,none⟩ (.int .i64 ((rd_T26 l0 x11_1).f0))).setCell ⟨gb186,1,none⟩ (.int .i64 ((rd_T26 l0 x11_1).f1))).setCell ⟨gb186,2,none⟩ (.slice A185_2 ((rd_T26 l0 x11_1).f2).length c185_2)).heap[gb186]? = some (.cells #[.int .i64 ((rd_T26 l0 x11_1).f0),.int .i64 ((rd_T26 l0 x11_1).f1),.slice A185_2 ((rd_T26 l0 x11_1).f2).length c185_2] 26 (0,0))):=⟨by (with_reducible repeat (first | refine blk_drewN ?_ _ | refine blk_drew ?_ | refine blk_alloc ?_ _));refine blk_put (cs:=#[.int .i64 ((rd_T26 l0 x11_1).f0),.int .i64 ((rd_T26 l0 x11_1).f1),.slice none 0 0]) ?_ 2 _ rfl;(with_reducible repeat (first | refine blk_drewN ?_ _ | refine blk_drew ?_ | refine blk_alloc ?_ _));refine blk_put (cs:=#[.int .i64 ((rd_T26 l0 x11_1).f0),.int .i64 0,.slice none 0 0]) ?_ 1 _ rfl;(with_reducible repeat (first | refine blk_drewN ?_ _ | refine blk_drew ?_ | refine blk_alloc ?_ _));refine blk_put (cs:=#[.int .i64 0,.int .i64 0,.slice none 0 0]) ?_ 0 _ rfl;exact BK186.out⟩
          have n2_:Aside0 (Below w.heap.size w (((w12.setCell ⟨gb186,0,none⟩ (.int .i64 ((rd_T26 l0 x11_1).f0))).setCell ⟨gb186,1,none⟩ (.int .i64 ((rd_T26 l0 x11_1).f1))).setCell ⟨gb186,2,none⟩ (.slice A185_2 ((rd_T26 l0 x11_1).f2).length c185_2))):=⟨by repeat ((with_reducible first | exact HB.out | refine below_set ?_ GE186.out))⟩
          (try clear HO_3)
          (try clear BK186)
          (try clear HB)
          generalize (((w12.setCell ⟨gb186,0,none⟩ (.int .i64 ((rd_T26 l0 x11_1).f0))).setCell ⟨gb186,1,none⟩ (.int .i64 ((rd_T26 l0 x11_1).f1))).setCell ⟨gb186,2,none⟩ (.slice A185_2 ((rd_T26 l0 x11_1).f2).length c185_2)) = w14 at n0_ n1_ n2_ ⊢
          have HO_3:=n0_
          have BK186:=n1_
          have HB:=n2_
          clear n0_ n1_ n2_
          have n0_:=Aside0.mk (Kd.N_drew HO_3.out)
          have n1_:=Aside0.mk (blk_drew BK186.out)
          have n2_:=Aside0.mk (below_drew1 HB.out)
          clear HO_3
          clear BK186
          clear HB
          have HO_3:=n0_
          have BK186:=n1_
          have HB:=n2_
          clear n0_ n1_ n2_
          refine start_ (n:=12) (S:=fun w'=>w'.cell? ⟨gb186,0,none⟩ = some (.int .i64 ((rd_T26 l0 x11_1).f0)) ∧ w'.cell? ⟨gb186,1,none⟩ = some (.int .i64 ((rd_T26 l0 x11_1).f1)) ∧ w'.cell? ⟨gb186,2,none⟩ = some (.slice A185_2 ((rd_T26 l0 x11_1).f2).length c185_2)) (ds:=[11]) #[false,false,false,false,false,false,false,false,false,false,false,false] (by kernel_rfl) rfl rfl ⟨(blk_cell BK186.out 0).trans rfl,(blk_cell BK186.out 1).trans rfl,(blk_cell BK186.out 2).trans rfl⟩ (fun hHeld=>?_);refine with_tabW flow_Copy.tab5 flow_Copy.bits5 (fun HT_ HW_=>?_)
          generalize w14.drew = w15 at HO_3 BK186 HB hHeld ⊢
          refine pure_ (i:=0) (N:=some 16) (v:=?_) (a':=?_) (bm 1 12) rfl rfl (any_of HT_.out (by kernel_rfl)) (fun _ _ _ h=>h) (Or.inl ⟨by rfl,?_⟩) ?_ ?_
          rotate_left
          ·intro w'
           go_simp
           with_reducible rfl
          rotate_left
          ·simp only [Act.put,sA,sB,sC,i64_w,i32_w]
           rfl
          refine pure_ (i:=1) (N:=some 17) (v:=?_) (a':=?_) (bm 3 12) rfl rfl (any_of HT_.out (by kernel_rfl)) (fun _ _ _ h=>h) (Or.inl ⟨by rfl,?_⟩) ?_ ?_
          rotate_left
          ·intro w'
           go_simp
           with_reducible rfl
          rotate_left
          ·simp only [Act.put,sA,sB,sC,i64_w,i32_w]
           rfl
          refine pure_ (i:=2) (N:=some 18) (v:=?_) (a':=?_) (bm 7 12) rfl rfl (any_of HT_.out (by kernel_rfl)) (fun _ _ _ h=>h) (Or.inl ⟨by rfl,?_⟩) ?_ ?_
          rotate_left
          ·intro w'
           go_simp
           with_reducible rfl
          rotate_left
          ·simp only [Act.put,sA,sB,sC,i64_w,i32_w]
           rfl
          refine pure_ (i:=4) (N:=some 20) (v:=?_) (a':=?_) (bm 23 12) rfl rfl (any_of HT_.out (by kernel_rfl)) (fun _ _ _ h=>h) (Or.inl ⟨by rfl,?_⟩) ?_ ?_
          rotate_left
          ·intro w'
           go_simp
           with_reducible rfl
          rotate_left
          ·simp only [Act.put,sA,sB,sC,i64_w,i32_w]
           rfl
          refine pure_ (i:=6) (N:=some 22) (v:=?_) (a':=?_) (bm 87 12) rfl rfl (any_of HT_.out (by kernel_rfl)) (fun _ _ _ h=>h) (Or.inl ⟨by rfl,?_⟩) ?_ ?_
          rotate_left
          ·intro w'
           go_simp
           with_reducible rfl
          rotate_left
          ·simp only [Act.put,sA,sB,sC,i64_w,i32_w]
           rfl
          refine take_ (i:=3) (N:=some 19) (v:=?_) (a':=?_) (bm 95 12) rfl rfl (take_ofW HT_.out HW_.out (by kernel_rfl)) (fun _ _ _ h=>h) (Or.inl ⟨by rfl,?_⟩) hHeld ?_ ?_
          rotate_left
          ·rintro w' ⟨s0,s1,s2⟩
           go_simp
           with_reducible rfl
          rotate_left
          ·simp only [Act.put,sA,sB,sC,i64_w,i32_w]
           rfl
          refine take_ (i:=5) (N:=some 21) (v:=?_) (a':=?_) (bm 127 12) rfl rfl (take_ofW HT_.out HW_.out (by kernel_rfl)) (fun _ _ _ h=>h) (Or.inl ⟨by rfl,?_⟩) hHeld ?_ ?_
          rotate_left
          ·rintro w' ⟨s0,s1,s2⟩
           go_simp
           with_reducible rfl
          rotate_left
          ·simp only [Act.put,sA,sB,sC,i64_w,i32_w]
           rfl
          refine take_ (i:=7) (N:=some 23) (v:=?_) (a':=?_) (bm 255 12) rfl rfl (take_ofW HT_.out HW_.out (by kernel_rfl)) (fun _ _ _ h=>h) (Or.inl ⟨by rfl,?_⟩) hHeld ?_ ?_
          rotate_left
          ·rintro w' ⟨s0,s1,s2⟩
           go_simp
           with_reducible rfl
          rotate_left
          ·simp only [Act.put,sA,sB,sC,i64_w,i32_w]
           rfl
          refine one_ (i:=8) (N:=some 24) (bm 511 12) rfl rfl (one_of HT_.out (by kernel_rfl)) (by decide) (fun K hK=>?_)
          refine Kd.R_append_rows_step k91 (w0:=w) w.heap.size (by rfl) (.const (.slice none 0 0)) (.tmp 23) 24 91 (.agg #[(.string ⟨#[]⟩),(.string ⟨#[]⟩)]) 32 rfl Try.underlying24 info91 rfl (by decide) (by omega) (.slice none 0 0) ([]:List (S91)) ((rd_T26 l0 x11_1).f2) _ _ _ (fun k_=>(w.heap.size ≤ k_)) (fun _=>False) rfl rfl ?aO ?aR (fun _ _ h=>h) (fun _ h=>h.elim) ?aF ?aB ?aS ?aL ?_
          (case aR=>repeat (exact (Kd.C_below HR185_2.out HB.out)))
          (case aB=>exact HB.out)
          (case aF=>exact (fun k_ hk=>(Nat.le_trans (below_size HB.out) hk)))
          (case aO=>exact ((Kd.R_nil _ _ _ _ (fun k_=>(w.heap.size ≤ k_)))))
          (case aS=>exact (below_size HB.out))
          (case aL=>have:=LMc9.out;omega)
          intro v188 w16 ho hb hg hat
          rw [← Ny187.out] at ho
          have n0_:=Aside0.mk (Kd.N_afterv (Kd.N_apart_nil HO_3.out) hg hat)
          have n1_:=Aside0.mk (blk_grown BK186.out hg (by simp [Value.ownBlock]))
          have n2_:=Aside0.mk hb
          have n3_:=Aside0.mk ho
          clear HO_3
          clear BK186
          clear HB
          have HO_3:=n0_
          have BK186:=n1_
          have HB:=n2_
          have HO189:=n3_
          clear n0_ n1_ n2_ n3_
          clear ho hb hg hat
          obtain ⟨Ao17,co17,eo17⟩:=Kd.R_slice HO189.out
          (subst eo17)
          have p11:0 ≤ (x11_1:Int):=of_decide_eq_true (by assumption)
          have q11:(x11_1:Int) < ((x3_1.length:Int):Int):=of_decide_eq_true (by assumption)
          obtain ⟨go11,co11,eo11,gb11,gl11,cl11,HG11⟩:=Kd.N_form HO_3.out (by omega)
          (first | cases eo11 | (injection eo11 with ea_ en_ ec_;(first | subst ea_ | (injection ea_ with ea_;subst ea_));subst ec_;clear en_))
          have GB11:=Aside0.mk gb11
          have GG11:=Aside0.mk HG11
          clear gb11 gl11 HG11
          obtain ⟨ce11,hcl11,hM11,hcc11,hfr11⟩:=Kd.N_elem HO_3.out z26 (x11_1:Int) p11 q11
          obtain ⟨ua11_2,uc11_2,rfl,ul11_2,ge11_2⟩:=k26_openF hM11
          have hx11_0:World.cell? _ ⟨go11,(x11_1:Int).toNat * 3,none⟩ = some (.int .i64 ((rd_T26 x3_1 x11_1).f0)):=hcc11 0 _ rfl
          have hx11_1:World.cell? _ ⟨go11,(x11_1:Int).toNat * 3 + 1,none⟩ = some (.int .i64 ((rd_T26 x3_1 x11_1).f1)):=hcc11 1 _ rfl
          have hx11_2:World.cell? _ ⟨go11,(x11_1:Int).toNat * 3 + 2,none⟩ = some (.slice ua11_2 ((rd_T26 x3_1 x11_1).f2).length uc11_2):=hcc11 2 _ rfl
          have hf11_0:World.frozen? _ ⟨go11,(x11_1:Int).toNat * 3,none⟩ = false:=hfr11 0
          have hf11_1:World.frozen? _ ⟨go11,(x11_1:Int).toNat * 3 + 1,none⟩ = false:=hfr11 1
          have hf11_2:World.frozen? _ ⟨go11,(x11_1:Int).toNat * 3 + 2,none⟩ = false:=hfr11 2
          clear hcl11 hcc11 hfr11 hM11
          replace p11:=eq_true p11
          replace q11:=eq_true q11
          have HX18:=Aside0.mk (show Kd.N k26 26 _ w.heap.size (fun k_=>(w.heap.size ≤ k_) ∧ some k_ ≠ (.slice Ao17 y187.length co17:Value).ownBlock ∧ k_ ≠ gb186) (.slice (some ⟨go11,0,none⟩) x3_1.length co11) x3_1 from (Kd.N_mono (HO_3.out) (fun k_ hk=>⟨hk.1.1,⟨hk.2,hk.1.2⟩⟩)))
          replace HX18:=Aside0.mk (show Kd.N k26 26 _ w.heap.size (fun k_=>(w.heap.size ≤ k_) ∧ k_ ≠ gb186) (.slice (some ⟨go11,0,none⟩) x3_1.length co11) x3_1 from Kd.N_mono HX18.out (fun k_ hk=>⟨hk.1,hk.2.2⟩))
          obtain ⟨ce18,hcl18,hM18,hcc18,hfr18⟩:=Kd.N_elem HX18.out z26 (x11_1:Int) (of_decide_eq_true (by assumption)) (by have h_:(x11_1:Int) < ((x3_1.length:Int):Int):=of_decide_eq_true (by assumption);exact h_)
          obtain ⟨ua18_2,uc18_2,rfl,ul18_2,ge18_2⟩:=k26_openF hM18
          have HP18:=(Kd.N_seg HX18.out (x11_1:Int) (of_decide_eq_true (by assumption)) (by have h_:(x11_1:Int) < ((x3_1.length:Int):Int):=of_decide_eq_true (by assumption);exact h_) (seg:=[.int .i64 ((rd_T26 l0 x11_1).f0),.int .i64 ((rd_T26 l0 x11_1).f1),.slice Ao17 y187.length co17]) (j:=0) hcl18 hcc18 (show 3 ≤ 3 from by decide) (x':=(⟨(rd_T26 l0 x11_1).f0,(rd_T26 l0 x11_1).f1,y187⟩:S26)) (k26_mkF _ _ (⟨(rd_T26 l0 x11_1).f0,(rd_T26 l0 x11_1).f1,y187⟩:S26) (Kd.R_reads' (Kd.R_mono (ok':=(fun k_=>((fun k_=>(w.heap.size ≤ k_) ∧ k_ ≠ gb186)) k_ ∧ k_ ≠ go11)) (Kd.R_types (Kd.R_apart' (HO189.out) (Kd.N_typed HO_3.out) (by decide)) BK186.out (by decide)) (fun k_ hk=>⟨⟨hk.1.1,hk.2⟩,fun e_=>(hk.1.2) (by rw [e_];rfl)⟩))).2.1 (Kd.R_F (Kd.R_mono (ok':=(fun k_=>((fun k_=>(w.heap.size ≤ k_) ∧ k_ ≠ gb186)) k_ ∧ k_ ≠ go11)) (Kd.R_types (Kd.R_apart' (HO189.out) (Kd.N_typed HO_3.out) (by decide)) BK186.out (by decide)) (fun k_ hk=>⟨⟨hk.1.1,hk.2⟩,fun e_=>(hk.1.2) (by rw [e_];rfl)⟩)))) (fun _ hk=>hk)).1
          rw [← Ny190.out] at HP18
          have HQ18:=Aside0.mk HP18
          clear hcl18 hcc18 hfr18 hM18 HP18
          refine hK.out _ _ ⟨(blk_cell BK186.out 0).trans rfl,(blk_cell BK186.out 1).trans rfl,(blk_cell BK186.out 2).trans rfl⟩ (fun hHeld=>?_)
          clear hK K
          refine norm_ (a':=?_) ?_ ?_
          rotate_left
          ·show Act.put _ (some 24) _ = _
           simp only [Act.put,sA,sB,sC,i64_w,i32_w]
           rfl
          refine pure_ (i:=9) (N:=some 25) (v:=?_) (a':=?_) (bm 1023 12) rfl rfl (any_of HT_.out (by kernel_rfl)) (fun _ _ _ h=>h) (Or.inl ⟨by rfl,?_⟩) ?_ ?_
          rotate_left
          ·intro w'
           go_simp
           with_reducible rfl
          rotate_left
          ·simp only [Act.put,sA,sB,sC,i64_w,i32_w]
           rfl
          refine pure_ (i:=10) (N:=some 26) (v:=?_) (a':=?_) (bm 2047 12) rfl rfl (any_of HT_.out (by kernel_rfl)) (fun _ _ _ h=>h) (Or.inl ⟨by rfl,?_⟩) ?_ ?_
          rotate_left
          ·intro w'
           go_simp
           with_reducible rfl
          rotate_left
          ·simp only [Act.put,sA,sB,sC,i64_w,i32_w]
           rfl
          refine last_ (i:=11) (N:=none) (bm 4095 12) rfl rfl (one_of HT_.out (by kernel_rfl)) (by decide) (fun K hK=>?_)
          refine skip_ (w1:=?_) (by rfl) rfl ?_ ?_
          rotate_left
          ·go_simp
           rfl
          refine hK.out _ _ ?_
          clear hK K
          refine done_ (done_of HT_.out (by kernel_rfl)) ?_
          try go_wp2
          go_roundg k1
          case measure=>have:=HK1.out;omega
          case rel=>exact ⟨(y190),(wrap64 (x11_1 + 1)),(by rfl),H',⟨by have:=HK1.out;omega⟩,⟨by exact Kd.N_mono HQ18.out (fun _ hk=>hk.1)⟩,⟨by repeat ((with_reducible first | exact HB.out | refine below_set ?_ GB11.out))⟩⟩
         ·rw [if_neg c10] at H
          exact absurd H (by simp)
        ·rw [if_neg c9] at H
         exact absurd H (by simp)
       ·rw [if_neg c8] at H
        exact absurd H (by simp)
      ·rw [if_neg c7] at H
       exact absurd H (by simp)
     ·rw [if_neg c6] at H
      have c6b0:decide (x11_1 < (l0.length:Int)) = false:=decide_eq_false c6
      clear c6
      obtain rfl:=Option.some.inj H
      go_wp2
      go_ret
      exact ⟨_,by rfl,by exact HO_3.out,HB.out⟩
  ·rw [if_neg c3] at H
   exact absurd H (by simp)
 ·rw [if_neg c2] at H
  exact absurd H (by simp)
end Go.Proofs.Ytlcodfjlbhjkbaa.PDelta
end
section
namespace Go.Proofs.Ytlcodfjlbhjkbaa.PDelta
open Go.RowKit Go.Proofs.YtlcodfjlbhjkbaaW.PrintWords Go.Proofs.YtlcodfjlbhjkbaaW.PrintLast Go.Proofs.YtlcodfjlbhjkbaaW.PrintMore
attribute [local go_sem] max2_int min2_int max_two min_two max_three min_three max_four min_four
attribute [local go_sem high] Go.Proofs.Ytlcodfjlbhjkbaa.Ord.leq_str Go.Proofs.Ytlcodfjlbhjkbaa.Ord.gtr_str Go.Proofs.Ytlcodfjlbhjkbaa.Ord.geq_str
attribute [local go_sem high] eqA91
def chanceryref1_SameAttrs.l0:Nat → List (S91) → List (S91) → Int → Int → Option (Bool)
 | 0,_,_,_,_=>none
 | k + 1,x0,x1,x12,x13=>if x13 < x12 then (if 0 ≤ x13 then (if x13 < (x0.length:Int) then (if x13 < (x1.length:Int) then (if (!((((rd_T91 x0 x13).f0).toList) == (((rd_T91 x1 x13).f0).toList)) || (!((((rd_T91 x0 x13).f1).toList) == (((rd_T91 x1 x13).f1).toList)))) = true then (some false) else (chanceryref1_SameAttrs.l0 k x0 x1 x12 (wrap64 (x13 + 1)))) else (none)) else (none)) else (none)) else (some true)
def chanceryref1_SameAttrs.f (k:Nat) (l0:List (S91)) (l1:List (S91)):Option (Bool):=if (l0.length:Int) = (l1.length:Int) then (chanceryref1_SameAttrs.l0 k l0 l1 (l0.length:Int) 0) else (some false)
set_option maxHeartbeats 8000000 in
set_option maxRecDepth 100000 in
theorem chanceryref1_SameAttrs.calls (k:Nat) (A0:Option Addr) (c0:Nat) (l0:List (S91)) (A1:Option Addr) (c1:Nat) (l1:List (S91)) (r:Bool) (w:World) (hr0:Kd.C k91 w A0 l0.length l0) (hc0:l0.length ≤ c0) (hr1:Kd.C k91 w A1 l1.length l1) (hc1:l1.length ≤ c1) (h:chanceryref1_SameAttrs.f k l0 l1 = some r) :
 Calls Try.prog 65 #[.slice A0 l0.length c0,.slice A1 l1.length c1] w fun e w'=>e = .returned (.bool r) ∧ Drawn0 w w':=by
 have hu91:=Try.underlying91
 have HR0:=Aside0.mk hr0
 have HC0:=Aside0.mk hc0
 clear hr0 hc0
 have HR1:=Aside0.mk hr1
 have HC1:=Aside0.mk hc1
 clear hr1 hc1
 have H:(if (l0.length:Int) = (l1.length:Int) then (chanceryref1_SameAttrs.l0 k l0 l1 (l0.length:Int) 0) else (some false)) = some r:=h
 clear h
 by_cases c3:(l0.length:Int) = (l1.length:Int)
 ·rw [if_pos c3] at H
  have c3b0:((l0.length:Int) == (l1.length:Int)) = true:=beq_iff_eq.mpr c3
  have c3b1:((l0.length:Int) != (l1.length:Int)) = false:=bne_eq_false_iff_eq.mpr c3
  have c3b2:(l0.length == l1.length) = true:=by (simp at c3 ⊢;omega)
  clear c3
  have H':=Aside0.mk H
  clear H
  go_enter Try.func65,Try.ntmps65
  go_wp2
  repeat (go_quiet (fail);try go_wp2)
  go_loopg [13] k (fun kq v13 w'=>∃ (x13_1:Int),v13 = .int .i64 x13_1 ∧ Aside0 (chanceryref1_SameAttrs.l0 kq l0 l1 (l0.length:Int) x13_1 = some r) ∧ Aside0 (kq ≤ k) ∧ Drawn0 w w')
  case atStart=>exact ⟨(0),(by rfl),H',⟨Nat.le_refl _⟩,by repeat (exact Drawn0.refl _)⟩
  case round =>
   clear H'
   try clear c3b0
   try clear c3b1
   try clear c3b2
   obtain ⟨x13_1,rfl,HA,HK1,⟨m1,rfl⟩⟩:=hrel
   cases gk with
   | zero=>exact absurd HA.out (by simp [chanceryref1_SameAttrs.l0])
   | succ k1 =>
    have H:=HA.out
    clear HA
    simp only [chanceryref1_SameAttrs.l0] at H
    by_cases c4:x13_1 < (l0.length:Int)
    ·rw [if_pos c4] at H
     have c4b0:decide (x13_1 < (l0.length:Int)) = true:=decide_eq_true c4
     clear c4
     by_cases c5:0 ≤ x13_1
     ·rw [if_pos c5] at H
      have c5b0:decide (0 ≤ x13_1) = true:=decide_eq_true c5
      clear c5
      by_cases c6:x13_1 < (l0.length:Int)
      ·rw [if_pos c6] at H
       have c6b0:decide (x13_1 < (l0.length:Int)) = true:=decide_eq_true c6
       clear c6
       by_cases c7:x13_1 < (l1.length:Int)
       ·rw [if_pos c7] at H
        have c7b0:decide (x13_1 < (l1.length:Int)) = true:=decide_eq_true c7
        clear c7
        by_cases c8:(!((((rd_T91 l0 x13_1).f0).toList) == (((rd_T91 l1 x13_1).f0).toList)) || (!((((rd_T91 l0 x13_1).f1).toList) == (((rd_T91 l1 x13_1).f1).toList)))) = true
        ·rw [if_pos c8] at H
         have c8b0:(!((((rd_T91 l0 x13_1).f0).toList) == (((rd_T91 l1 x13_1).f0).toList)) || (!((((rd_T91 l0 x13_1).f1).toList) == (((rd_T91 l1 x13_1).f1).toList)))) = true:=c8
         clear c8
         obtain rfl:=Option.some.inj H
         have p224:0 ≤ (x13_1:Int):=of_decide_eq_true (by assumption)
         have q224:x13_1 < (l0.length:Int):=of_decide_eq_true (by assumption)
         obtain ⟨ad224,e224,hx224_0,hx224_1⟩:=at_T91 HR0.out x13_1 p224 q224
         cases e224
         replace p224:=eq_true p224
         replace q224:=eq_true q224
         have p225:0 ≤ (x13_1:Int):=of_decide_eq_true (by assumption)
         have q225:x13_1 < (l1.length:Int):=of_decide_eq_true (by assumption)
         obtain ⟨ad225,e225,hx225_0,hx225_1⟩:=at_T91 HR1.out x13_1 p225 q225
         cases e225
         replace p225:=eq_true p225
         replace q225:=eq_true q225
         go_wp2
         repeat (go_quiet (fail);try go_wp2)
         go_ret
         exact ⟨by rfl,by repeat (first | exact Drawn0.refl _ | apply Drawn0.step)⟩
        ·rw [if_neg c8] at H
         have c8b0:(!((((rd_T91 l0 x13_1).f0).toList) == (((rd_T91 l1 x13_1).f0).toList)) || (!((((rd_T91 l0 x13_1).f1).toList) == (((rd_T91 l1 x13_1).f1).toList)))) = false:=by simpa using c8
         clear c8
         have H':=Aside0.mk H
         clear H
         have p224:0 ≤ (x13_1:Int):=of_decide_eq_true (by assumption)
         have q224:x13_1 < (l0.length:Int):=of_decide_eq_true (by assumption)
         obtain ⟨ad224,e224,hx224_0,hx224_1⟩:=at_T91 HR0.out x13_1 p224 q224
         cases e224
         replace p224:=eq_true p224
         replace q224:=eq_true q224
         have p225:0 ≤ (x13_1:Int):=of_decide_eq_true (by assumption)
         have q225:x13_1 < (l1.length:Int):=of_decide_eq_true (by assumption)
         obtain ⟨ad225,e225,hx225_0,hx225_1⟩:=at_T91 HR1.out x13_1 p225 q225
         cases e225
         replace p225:=eq_true p225
         replace q225:=eq_true q225
         go_wp2
         repeat (go_quiet (fail);try go_wp2)
         go_roundg k1
         case measure=>have:=HK1.out;omega
         case rel=>exact ⟨(wrap64 (x13_1 + 1)),(by rfl),H',⟨by have:=HK1.out;omega⟩,by repeat (first | exact Drawn0.refl _ | apply Drawn0.step)⟩
       ·rw [if_neg c7] at H
        exact absurd H (by simp)
      ·rw [if_neg c6] at H
       exact absurd H (by simp)
     ·rw [if_neg c5] at H
      exact absurd H (by simp)
    ·rw [if_neg c4] at H
     have c4b0:decide (x13_1 < (l0.length:Int)) = false:=decide_eq_false c4
     clear c4
     obtain rfl:=Option.some.inj H
     go_wp2
     repeat (go_quiet (fail);try go_wp2)
     go_ret
     exact ⟨by rfl,by repeat (first | exact Drawn0.refl _ | apply Drawn0.step)⟩
 ·rw [if_neg c3] at H
  have c3b0:((l0.length:Int) == (l1.length:Int)) = false:=beq_eq_false_iff_ne.mpr c3
  have c3b1:((l0.length:Int) != (l1.length:Int)) = true:=bne_iff_ne.mpr c3
  have c3b2:(l0.length == l1.length) = false:=by (simp at c3 ⊢;omega)
  obtain rfl:=Option.some.inj H
  go_enter Try.func65,Try.ntmps65
  go_wp2
  repeat (go_quiet (fail);try go_wp2)
  go_ret
  exact ⟨by rfl,by repeat (exact Drawn0.refl _)⟩
def chanceryref1_SameElem.f (k:Nat) (a0_0:Int) (a0_1:Int) (l0_2:List (S91)) (a1_0:Int) (a1_1:Int) (l1_2:List (S91)):Option (Bool):=if a0_0 = a1_0 then (if a0_1 = a1_1 then ((chanceryref1_SameAttrs.f k l0_2 l1_2).bind fun t228=>(some t228)) else (some false)) else (some false)
set_option maxHeartbeats 8000000 in
set_option maxRecDepth 100000 in
theorem chanceryref1_SameElem.calls (k:Nat) (a0_0:Int) (a0_1:Int) (A0_2:Option Addr) (c0_2:Nat) (l0_2:List (S91)) (a1_0:Int) (a1_1:Int) (A1_2:Option Addr) (c1_2:Nat) (l1_2:List (S91)) (r:Bool) (w:World) (hr0_2:Kd.C k91 w A0_2 l0_2.length l0_2) (hc0_2:l0_2.length ≤ c0_2) (hr1_2:Kd.C k91 w A1_2 l1_2.length l1_2) (hc1_2:l1_2.length ≤ c1_2) (h:chanceryref1_SameElem.f k a0_0 a0_1 l0_2 a1_0 a1_1 l1_2 = some r) :
 Calls Try.prog 30 #[.agg #[.int .i64 a0_0,.int .i64 a0_1,.slice A0_2 l0_2.length c0_2],.agg #[.int .i64 a1_0,.int .i64 a1_1,.slice A1_2 l1_2.length c1_2]] w fun e w'=>e = .returned (.bool r) ∧ Below w.heap.size w w':=by
 have hu26:=Try.underlying26
 have HR0_2:=Aside0.mk hr0_2
 have HC0_2:=Aside0.mk hc0_2
 clear hr0_2 hc0_2
 have HR1_2:=Aside0.mk hr1_2
 have HC1_2:=Aside0.mk hc1_2
 clear hr1_2 hc1_2
 have HB:=Aside0.mk (Below.refl w.heap.size w)
 have H:(if a0_0 = a1_0 then (if a0_1 = a1_1 then ((chanceryref1_SameAttrs.f k l0_2 l1_2).bind fun t228=>(some t228)) else (some false)) else (some false)) = some r:=h
 clear h
 by_cases c3:a0_0 = a1_0
 ·rw [if_pos c3] at H
  have c3b0:(a0_0 == a1_0) = true:=beq_iff_eq.mpr c3
  have c3b1:(a0_0 != a1_0) = false:=bne_eq_false_iff_eq.mpr c3
  clear c3
  by_cases c4:a0_1 = a1_1
  ·rw [if_pos c4] at H
   have c4b0:(a0_1 == a1_1) = true:=beq_iff_eq.mpr c4
   have c4b1:(a0_1 != a1_1) = false:=bne_eq_false_iff_eq.mpr c4
   clear c4
   replace H:=Option.bind_eq_some_iff.mp H
   obtain ⟨t228,A50,H⟩:=H
   replace H:(some t228) = some r:=H
   have A5:=Aside0.mk A50
   clear A50
   obtain rfl:=Option.some.inj H
   go_enter Try.func30,Try.ntmps30
   go_wp2_with (first | ((with_reducible refine gate_dst (N:=2) rfl ?_);refine box_event ?hg (N:=2) ?hd (cs:=#[.int .i64 a0_0,.int .i64 a0_1,.slice A0_2 l0_2.length c0_2]) (t:=26) ?hr ?_;(case hd=>rfl);(case hg=>rfl);(case hr=>(go_simp;done));intro gb226 hg w6 hbox hb;have n0_:=Aside0.mk (below_step (by with_reducible exact HB.out) hb);have n1_:=Aside0.mk hbox;have n2_:=Aside0.mk ((by rw [hg];exact (below_size (by with_reducible exact HB.out)):w.heap.size ≤ gb226));have n3_:=Aside0.mk ((by rw [hg];exact (below_size (by with_reducible exact HB.out)):w.heap.size ≤ gb226));clear HB;have HB:=n0_;have BK226:=n1_;have GW226:=n2_;have GE226:=n3_;clear n0_ n1_ n2_ n3_;clear hb hbox hg) | ((with_reducible refine gate_dst (N:=3) rfl ?_);refine box_event ?hg (N:=3) ?hd (cs:=#[.int .i64 a1_0,.int .i64 a1_1,.slice A1_2 l1_2.length c1_2]) (t:=26) ?hr ?_;(case hd=>rfl);(case hg=>rfl);(case hr=>(go_simp;done));intro gb227 hg w7 hbox hb;have n0_:=Aside0.mk (blk_below BK226.out hb);have n1_:=Aside0.mk (below_step HB.out hb);have n2_:=Aside0.mk hbox;have n3_:=Aside0.mk ((by rw [hg];exact (below_size HB.out):w.heap.size ≤ gb227));have n4_:=Aside0.mk ((by rw [hg];exact (below_size HB.out):w.heap.size ≤ gb227));have n5_:=Aside0.mk ((by rw [hg];exact Nat.ne_of_lt (blk_lt BK226.out):gb226 ≠ gb227));have n6_:=Aside0.mk ((by rw [hg];exact Nat.ne_of_gt (blk_lt BK226.out):gb227 ≠ gb226));clear BK226;clear HB;have BK226:=n0_;have HB:=n1_;have BK227:=n2_;have GW227:=n3_;have GE227:=n4_;have NB226_227:=n5_;have NB227_226:=n6_;clear n0_ n1_ n2_ n3_ n4_ n5_ n6_;clear hb hbox hg;have hnb8:=NB226_227.out;have hnc8:=NB227_226.out;have hcz9_0:w7.cell? ⟨gb226,0,none⟩ = some (.int .i64 a0_0):=(blk_cell BK226.out 0).trans rfl;have hcz9_1:w7.cell? ⟨gb226,1,none⟩ = some (.int .i64 a0_1):=(blk_cell BK226.out 1).trans rfl;have hcz9_2:w7.cell? ⟨gb226,2,none⟩ = some (.slice A0_2 l0_2.length c0_2):=(blk_cell BK226.out 2).trans rfl;have hfz9_0:=blk_frozen BK226.out 0;have hfz9_1:=blk_frozen BK226.out 1;have hfz9_2:=blk_frozen BK226.out 2;have hcz10_0:w7.cell? ⟨gb227,0,none⟩ = some (.int .i64 a1_0):=(blk_cell BK227.out 0).trans rfl;have hcz10_1:w7.cell? ⟨gb227,1,none⟩ = some (.int .i64 a1_1):=(blk_cell BK227.out 1).trans rfl;have hcz10_2:w7.cell? ⟨gb227,2,none⟩ = some (.slice A1_2 l1_2.length c1_2):=(blk_cell BK227.out 2).trans rfl;have hfz10_0:=blk_frozen BK227.out 0;have hfz10_1:=blk_frozen BK227.out 1;have hfz10_2:=blk_frozen BK227.out 2) | (go_at_call 65;(with_reducible refine (chanceryref1_SameAttrs.calls k _ _ l0_2 _ _ l1_2 t228 _ ?side1 ?side2 ?side3 ?side4 A5.out).mono ?_);(case side1=>repeat (exact (Kd.C_below HR0_2.out HB.out)));(case side2=>exact HC0_2.out);(case side3=>repeat (exact (Kd.C_below HR1_2.out HB.out)));(case side4=>exact HC1_2.out);rintro e w' ⟨rfl,⟨nd,rfl⟩⟩))
   go_ret
   exact ⟨by rfl,by repeat ((with_reducible first | exact HB.out | apply pw_below_drewN))⟩
  ·rw [if_neg c4] at H
   have c4b0:(a0_1 == a1_1) = false:=beq_eq_false_iff_ne.mpr c4
   have c4b1:(a0_1 != a1_1) = true:=bne_iff_ne.mpr c4
   obtain rfl:=Option.some.inj H
   go_enter Try.func30,Try.ntmps30
   go_wp2_with (first | ((with_reducible refine gate_dst (N:=2) rfl ?_);refine box_event ?hg (N:=2) ?hd (cs:=#[.int .i64 a0_0,.int .i64 a0_1,.slice A0_2 l0_2.length c0_2]) (t:=26) ?hr ?_;(case hd=>rfl);(case hg=>rfl);(case hr=>(go_simp;done));intro gb226 hg w11 hbox hb;have n0_:=Aside0.mk (below_step (by with_reducible exact HB.out) hb);have n1_:=Aside0.mk hbox;have n2_:=Aside0.mk ((by rw [hg];exact (below_size (by with_reducible exact HB.out)):w.heap.size ≤ gb226));have n3_:=Aside0.mk ((by rw [hg];exact (below_size (by with_reducible exact HB.out)):w.heap.size ≤ gb226));clear HB;have HB:=n0_;have BK226:=n1_;have GW226:=n2_;have GE226:=n3_;clear n0_ n1_ n2_ n3_;clear hb hbox hg) | ((with_reducible refine gate_dst (N:=3) rfl ?_);refine box_event ?hg (N:=3) ?hd (cs:=#[.int .i64 a1_0,.int .i64 a1_1,.slice A1_2 l1_2.length c1_2]) (t:=26) ?hr ?_;(case hd=>rfl);(case hg=>rfl);(case hr=>(go_simp;done));intro gb227 hg w12 hbox hb;have n0_:=Aside0.mk (blk_below BK226.out hb);have n1_:=Aside0.mk (below_step HB.out hb);have n2_:=Aside0.mk hbox;have n3_:=Aside0.mk ((by rw [hg];exact (below_size HB.out):w.heap.size ≤ gb227));have n4_:=Aside0.mk ((by rw [hg];exact (below_size HB.out):w.heap.size ≤ gb227));have n5_:=Aside0.mk ((by rw [hg];exact Nat.ne_of_lt (blk_lt BK226.out):gb226 ≠ gb227));have n6_:=Aside0.mk ((by rw [hg];exact Nat.ne_of_gt (blk_lt BK226.out):gb227 ≠ gb226));clear BK226;clear HB;have BK226:=n0_;have HB:=n1_;have BK227:=n2_;have GW227:=n3_;have GE227:=n4_;have NB226_227:=n5_;have NB227_226:=n6_;clear n0_ n1_ n2_ n3_ n4_ n5_ n6_;clear hb hbox hg;have hnb13:=NB226_227.out;have hnc13:=NB227_226.out;have hcz14_0:w12.cell? ⟨gb226,0,none⟩ = some (.int .i64 a0_0):=(blk_cell BK226.out 0).trans rfl;have hcz14_1:w12.cell? ⟨gb226,1,none⟩ = some (.int .i64 a0_1):=(blk_cell BK226.out 1).trans rfl;have hcz14_2:w12.cell? ⟨gb226,2,none⟩ = some (.slice A0_2 l0_2.length c0_2):=(blk_cell BK226.out 2).trans rfl;have hfz14_0:=blk_frozen BK226.out 0;have hfz14_1:=blk_frozen BK226.out 1;have hfz14_2:=blk_frozen BK226.out 2;have hcz15_0:w12.cell? ⟨gb227,0,none⟩ = some (.int .i64 a1_0):=(blk_cell BK227.out 0).trans rfl;have hcz15_1:w12.cell? ⟨gb227,1,none⟩ = some (.int .i64 a1_1):=(blk_cell BK227.out 1).trans rfl;have hcz15_2:w12.cell? ⟨gb227,2,none⟩ = some (.slice A1_2 l1_2.length c1_2):=(blk_cell BK227.out 2).trans rfl;have hfz15_0:=blk_frozen BK227.out 0;have hfz15_1:=blk_frozen BK227.out 1;have hfz15_2:=blk_frozen BK227.out 2))
   go_ret
   exact ⟨by rfl,HB.out⟩
 ·rw [if_neg c3] at H
  have c3b0:(a0_0 == a1_0) = false:=beq_eq_false_iff_ne.mpr c3
  have c3b1:(a0_0 != a1_0) = true:=bne_iff_ne.mpr c3
  obtain rfl:=Option.some.inj H
  go_enter Try.func30,Try.ntmps30
  go_wp2_with (first | ((with_reducible refine gate_dst (N:=2) rfl ?_);refine box_event ?hg (N:=2) ?hd (cs:=#[.int .i64 a0_0,.int .i64 a0_1,.slice A0_2 l0_2.length c0_2]) (t:=26) ?hr ?_;(case hd=>rfl);(case hg=>rfl);(case hr=>(go_simp;done));intro gb226 hg w16 hbox hb;have n0_:=Aside0.mk (below_step (by with_reducible exact HB.out) hb);have n1_:=Aside0.mk hbox;have n2_:=Aside0.mk ((by rw [hg];exact (below_size (by with_reducible exact HB.out)):w.heap.size ≤ gb226));have n3_:=Aside0.mk ((by rw [hg];exact (below_size (by with_reducible exact HB.out)):w.heap.size ≤ gb226));clear HB;have HB:=n0_;have BK226:=n1_;have GW226:=n2_;have GE226:=n3_;clear n0_ n1_ n2_ n3_;clear hb hbox hg) | ((with_reducible refine gate_dst (N:=3) rfl ?_);refine box_event ?hg (N:=3) ?hd (cs:=#[.int .i64 a1_0,.int .i64 a1_1,.slice A1_2 l1_2.length c1_2]) (t:=26) ?hr ?_;(case hd=>rfl);(case hg=>rfl);(case hr=>(go_simp;done));intro gb227 hg w17 hbox hb;have n0_:=Aside0.mk (blk_below BK226.out hb);have n1_:=Aside0.mk (below_step HB.out hb);have n2_:=Aside0.mk hbox;have n3_:=Aside0.mk ((by rw [hg];exact (below_size HB.out):w.heap.size ≤ gb227));have n4_:=Aside0.mk ((by rw [hg];exact (below_size HB.out):w.heap.size ≤ gb227));have n5_:=Aside0.mk ((by rw [hg];exact Nat.ne_of_lt (blk_lt BK226.out):gb226 ≠ gb227));have n6_:=Aside0.mk ((by rw [hg];exact Nat.ne_of_gt (blk_lt BK226.out):gb227 ≠ gb226));clear BK226;clear HB;have BK226:=n0_;have HB:=n1_;have BK227:=n2_;have GW227:=n3_;have GE227:=n4_;have NB226_227:=n5_;have NB227_226:=n6_;clear n0_ n1_ n2_ n3_ n4_ n5_ n6_;clear hb hbox hg;have hnb18:=NB226_227.out;have hnc18:=NB227_226.out;have hcz19_0:w17.cell? ⟨gb226,0,none⟩ = some (.int .i64 a0_0):=(blk_cell BK226.out 0).trans rfl;have hcz19_1:w17.cell? ⟨gb226,1,none⟩ = some (.int .i64 a0_1):=(blk_cell BK226.out 1).trans rfl;have hcz19_2:w17.cell? ⟨gb226,2,none⟩ = some (.slice A0_2 l0_2.length c0_2):=(blk_cell BK226.out 2).trans rfl;have hfz19_0:=blk_frozen BK226.out 0;have hfz19_1:=blk_frozen BK226.out 1;have hfz19_2:=blk_frozen BK226.out 2;have hcz20_0:w17.cell? ⟨gb227,0,none⟩ = some (.int .i64 a1_0):=(blk_cell BK227.out 0).trans rfl;have hcz20_1:w17.cell? ⟨gb227,1,none⟩ = some (.int .i64 a1_1):=(blk_cell BK227.out 1).trans rfl;have hcz20_2:w17.cell? ⟨gb227,2,none⟩ = some (.slice A1_2 l1_2.length c1_2):=(blk_cell BK227.out 2).trans rfl;have hfz20_0:=blk_frozen BK227.out 0;have hfz20_1:=blk_frozen BK227.out 1;have hfz20_2:=blk_frozen BK227.out 2))
  go_ret
  exact ⟨by rfl,HB.out⟩
end Go.Proofs.Ytlcodfjlbhjkbaa.PDelta
end
section
namespace Go.Proofs.Ytlcodfjlbhjkbaa.PDelta
open Go.RowKit Go.Proofs.YtlcodfjlbhjkbaaW.PrintWords Go.Proofs.YtlcodfjlbhjkbaaW.PrintLast Go.Proofs.YtlcodfjlbhjkbaaW.PrintMore
attribute [local go_sem] max2_int min2_int max_two min_two max_three min_three max_four min_four
attribute [local go_sem high] Go.Proofs.Ytlcodfjlbhjkbaa.Ord.leq_str Go.Proofs.Ytlcodfjlbhjkbaa.Ord.gtr_str Go.Proofs.Ytlcodfjlbhjkbaa.Ord.geq_str
def chanceryref1_SameFlow.l0:Nat → List (S26) → List (S26) → Int → Int → Option (Bool)
 | 0,_,_,_,_=>none
 | k + 1,x0,x1,x12,x13=>if x13 < x12 then (if 0 ≤ x13 then (if x13 < (x0.length:Int) then (if x13 < (x1.length:Int) then ((chanceryref1_SameElem.f k ((rd_T26 x0 x13).f0) ((rd_T26 x0 x13).f1) ((rd_T26 x0 x13).f2) ((rd_T26 x1 x13).f0) ((rd_T26 x1 x13).f1) ((rd_T26 x1 x13).f2)).bind fun t231=>(if t231 = true then (chanceryref1_SameFlow.l0 k x0 x1 x12 (wrap64 (x13 + 1))) else (some false))) else (none)) else (none)) else (none)) else (some true)
def chanceryref1_SameFlow.f (k:Nat) (l0:List (S26)) (l1:List (S26)):Option (Bool):=if (l0.length:Int) = (l1.length:Int) then (chanceryref1_SameFlow.l0 k l0 l1 (l0.length:Int) 0) else (some false)
def chanceryref1_SameFlow.T6:Bool × List (List Nat × List Nat):=(true,[([],[]),([],[]),([0,1],[0,1]),([2],[2]),([],[]),([],[]),([4,5],[4,5]),([6],[6]),([3,7],[3,7]),([8],[8])])
def chanceryref1_SameFlow.B6:List Nat:=[0,0,3,7,0,0,48,112,255,511]
theorem chanceryref1_SameFlow.tab6:rtab .any (opsOf Try.f28 6) = chanceryref1_SameFlow.T6:=by kernel_rfl
theorem chanceryref1_SameFlow.bits6:waitsOk chanceryref1_SameFlow.T6.2 chanceryref1_SameFlow.B6 = true:=by kernel_rfl
set_option maxHeartbeats 8000000 in
set_option maxRecDepth 100000 in
theorem chanceryref1_SameFlow.calls (k:Nat) (A0:Option Addr) (c0:Nat) (l0:List (S26)) (A1:Option Addr) (c1:Nat) (l1:List (S26)) (r:Bool) (w:World) (hr0:Kd.C k26 w A0 l0.length l0) (hc0:l0.length ≤ c0) (hr1:Kd.C k26 w A1 l1.length l1) (hc1:l1.length ≤ c1) (h:chanceryref1_SameFlow.f k l0 l1 = some r) :
 Calls Try.prog 28 #[.slice A0 l0.length c0,.slice A1 l1.length c1] w fun e w'=>e = .returned (.bool r) ∧ Below w.heap.size w w':=by
 have hu26:=Try.underlying26
 have HR0:=Aside0.mk hr0
 have HC0:=Aside0.mk hc0
 clear hr0 hc0
 have HR1:=Aside0.mk hr1
 have HC1:=Aside0.mk hc1
 clear hr1 hc1
 have HB:=Aside0.mk (Below.refl w.heap.size w)
 have H:(if (l0.length:Int) = (l1.length:Int) then (chanceryref1_SameFlow.l0 k l0 l1 (l0.length:Int) 0) else (some false)) = some r:=h
 clear h
 by_cases c3:(l0.length:Int) = (l1.length:Int)
 ·rw [if_pos c3] at H
  have c3b0:((l0.length:Int) == (l1.length:Int)) = true:=beq_iff_eq.mpr c3
  have c3b1:((l0.length:Int) != (l1.length:Int)) = false:=bne_eq_false_iff_eq.mpr c3
  have c3b2:(l0.length == l1.length) = true:=by (simp at c3 ⊢;omega)
  clear c3
  have H':=Aside0.mk H
  clear H
  go_enter Try.func28,Try.ntmps28
  go_wp2
  go_loopg [13] k (fun kq v13 w'=>∃ (x13_1:Int),v13 = .int .i64 x13_1 ∧ Aside0 (chanceryref1_SameFlow.l0 kq l0 l1 (l0.length:Int) x13_1 = some r) ∧ Aside0 (kq ≤ k) ∧ Aside0 (Below w.heap.size w w'))
  case atStart=>exact ⟨(0),(by rfl),H',⟨Nat.le_refl _⟩,⟨HB.out⟩⟩
  case round =>
   clear H'
   try clear c3b0
   try clear c3b1
   try clear c3b2
   obtain ⟨x13_1,rfl,HA,HK1,HB⟩:=hrel
   cases gk with
   | zero=>exact absurd HA.out (by simp [chanceryref1_SameFlow.l0])
   | succ k1 =>
    have H:=HA.out
    clear HA
    simp only [chanceryref1_SameFlow.l0] at H
    by_cases c4:x13_1 < (l0.length:Int)
    ·rw [if_pos c4] at H
     have c4b0:decide (x13_1 < (l0.length:Int)) = true:=decide_eq_true c4
     clear c4
     by_cases c5:0 ≤ x13_1
     ·rw [if_pos c5] at H
      have c5b0:decide (0 ≤ x13_1) = true:=decide_eq_true c5
      clear c5
      by_cases c6:x13_1 < (l0.length:Int)
      ·rw [if_pos c6] at H
       have c6b0:decide (x13_1 < (l0.length:Int)) = true:=decide_eq_true c6
       clear c6
       by_cases c7:x13_1 < (l1.length:Int)
       ·rw [if_pos c7] at H
        have c7b0:decide (x13_1 < (l1.length:Int)) = true:=decide_eq_true c7
        clear c7
        replace H:=Option.bind_eq_some_iff.mp H
        obtain ⟨t231,A80,H⟩:=H
        replace H:(if t231 = true then (chanceryref1_SameFlow.l0 k1 l0 l1 (l0.length:Int) (wrap64 (x13_1 + 1))) else (some false)) = some r:=H
        have A8:=Aside0.mk A80
        clear A80
        by_cases c9:t231 = true
        ·subst c9
         have H1:(chanceryref1_SameFlow.l0 k1 l0 l1 (l0.length:Int) (wrap64 (x13_1 + 1))) = some r:=by rw [if_pos rfl] at H;exact H
         clear H
         have H:=H1
         clear H1
         have H':=Aside0.mk H
         clear H
         try go_wp2
         have n0_:=Aside0.mk (below_drew1 HB.out)
         clear HB
         have HB:=n0_
         clear n0_
         have p229:0 ≤ (x13_1:Int):=of_decide_eq_true (by assumption)
         have q229:x13_1 < (l0.length:Int):=of_decide_eq_true (by assumption)
         obtain ⟨ad229,A229_2,c229_2,e229,hx229_0,hx229_1,hx229_2,hl229_2,hi229_2⟩:=at_T26 HR0.out x13_1 p229 q229
         have hw229_2:=hx229_2
         have hw229_1:=hx229_1
         have hw229_0:=hx229_0
         cases e229
         replace hx229_0:=(HB.out.cell (World.block_lt_of_cell? w _ hx229_0)).trans hx229_0
         replace hx229_1:=(HB.out.cell (World.block_lt_of_cell? w _ hx229_1)).trans hx229_1
         replace hx229_2:=(HB.out.cell (World.block_lt_of_cell? w _ hx229_2)).trans hx229_2
         have HR229_2:=Aside0.mk hi229_2
         have HC229_2:=Aside0.mk hl229_2
         clear hi229_2 hl229_2
         replace p229:=eq_true p229
         replace q229:=eq_true q229
         have p230:0 ≤ (x13_1:Int):=of_decide_eq_true (by assumption)
         have q230:x13_1 < (l1.length:Int):=of_decide_eq_true (by assumption)
         obtain ⟨ad230,A230_2,c230_2,e230,hx230_0,hx230_1,hx230_2,hl230_2,hi230_2⟩:=at_T26 HR1.out x13_1 p230 q230
         have hw230_2:=hx230_2
         have hw230_1:=hx230_1
         have hw230_0:=hx230_0
         cases e230
         replace hx230_0:=(HB.out.cell (World.block_lt_of_cell? w _ hx230_0)).trans hx230_0
         replace hx230_1:=(HB.out.cell (World.block_lt_of_cell? w _ hx230_1)).trans hx230_1
         replace hx230_2:=(HB.out.cell (World.block_lt_of_cell? w _ hx230_2)).trans hx230_2
         have HR230_2:=Aside0.mk hi230_2
         have HC230_2:=Aside0.mk hl230_2
         clear hi230_2 hl230_2
         replace p230:=eq_true p230
         replace q230:=eq_true q230
         refine start_ (n:=10) (S:=fun w'=>w'.cell? (ad229.add ((x13_1).toNat * 3)) = some (.int .i64 ((rd_T26 l0 x13_1).f0)) ∧ w'.cell? ⟨(ad229.add ((x13_1).toNat * 3)).block,(ad229.add ((x13_1).toNat * 3)).off + 1,none⟩ = some (.int .i64 ((rd_T26 l0 x13_1).f1)) ∧ w'.cell? ⟨(ad229.add ((x13_1).toNat * 3)).block,(ad229.add ((x13_1).toNat * 3)).off + 2,none⟩ = some (.slice A229_2 ((rd_T26 l0 x13_1).f2).length c229_2) ∧ w'.cell? (ad230.add ((x13_1).toNat * 3)) = some (.int .i64 ((rd_T26 l1 x13_1).f0)) ∧ w'.cell? ⟨(ad230.add ((x13_1).toNat * 3)).block,(ad230.add ((x13_1).toNat * 3)).off + 1,none⟩ = some (.int .i64 ((rd_T26 l1 x13_1).f1)) ∧ w'.cell? ⟨(ad230.add ((x13_1).toNat * 3)).block,(ad230.add ((x13_1).toNat * 3)).off + 2,none⟩ = some (.slice A230_2 ((rd_T26 l1 x13_1).f2).length c230_2)) (ds:=[]) #[false,false,false,false,false,false,false,false,false,false] (by kernel_rfl) rfl rfl ⟨((HB.out.cell (World.block_lt_of_cell? w _ hw229_0)).trans hw229_0),((HB.out.cell (World.block_lt_of_cell? w _ hw229_1)).trans hw229_1),((HB.out.cell (World.block_lt_of_cell? w _ hw229_2)).trans hw229_2),((HB.out.cell (World.block_lt_of_cell? w _ hw230_0)).trans hw230_0),((HB.out.cell (World.block_lt_of_cell? w _ hw230_1)).trans hw230_1),((HB.out.cell (World.block_lt_of_cell? w _ hw230_2)).trans hw230_2)⟩ (fun hHeld=>?_);refine with_tabW chanceryref1_SameFlow.tab6 chanceryref1_SameFlow.bits6 (fun HT_ HW_=>?_)
         generalize wr.drew = w10 at HB HR229_2 HR230_2 hx229_0 hx229_1 hx229_2 hx230_0 hx230_1 hx230_2 hHeld ⊢
         refine pure_ (i:=0) (N:=some 16) (v:=?_) (a':=?_) (bm 1 10) rfl rfl (any_of HT_.out (by kernel_rfl)) (fun _ _ _ h=>h) (Or.inl ⟨by rfl,?_⟩) ?_ ?_
         rotate_left
         ·intro w'
          go_simp
          with_reducible rfl
         rotate_left
         ·simp only [Act.put,sA,sB,sC,i64_w,i32_w]
          rfl
         refine pure_ (i:=1) (N:=some 17) (v:=?_) (a':=?_) (bm 3 10) rfl rfl (any_of HT_.out (by kernel_rfl)) (fun _ _ _ h=>h) (Or.inl ⟨by rfl,?_⟩) ?_ ?_
         rotate_left
         ·intro w'
          go_simp
          with_reducible rfl
         rotate_left
         ·simp only [Act.put,sA,sB,sC,i64_w,i32_w]
          rfl
         refine pure_ (i:=2) (N:=some 18) (v:=?_) (a':=?_) (bm 7 10) rfl rfl (any_of HT_.out (by kernel_rfl)) (fun _ _ _ h=>h) (Or.inl ⟨by rfl,?_⟩) ?_ ?_
         rotate_left
         ·intro w'
          go_simp
          with_reducible rfl
         rotate_left
         ·simp only [Act.put,sA,sB,sC,i64_w,i32_w]
          rfl
         refine pure_ (i:=4) (N:=some 20) (v:=?_) (a':=?_) (bm 23 10) rfl rfl (any_of HT_.out (by kernel_rfl)) (fun _ _ _ h=>h) (Or.inl ⟨by rfl,?_⟩) ?_ ?_
         rotate_left
         ·intro w'
          go_simp
          with_reducible rfl
         rotate_left
         ·simp only [Act.put,sA,sB,sC,i64_w,i32_w]
          rfl
         refine pure_ (i:=5) (N:=some 21) (v:=?_) (a':=?_) (bm 55 10) rfl rfl (any_of HT_.out (by kernel_rfl)) (fun _ _ _ h=>h) (Or.inl ⟨by rfl,?_⟩) ?_ ?_
         rotate_left
         ·intro w'
          go_simp
          with_reducible rfl
         rotate_left
         ·simp only [Act.put,sA,sB,sC,i64_w,i32_w]
          rfl
         refine pure_ (i:=6) (N:=some 22) (v:=?_) (a':=?_) (bm 119 10) rfl rfl (any_of HT_.out (by kernel_rfl)) (fun _ _ _ h=>h) (Or.inl ⟨by rfl,?_⟩) ?_ ?_
         rotate_left
         ·intro w'
          go_simp
          with_reducible rfl
         rotate_left
         ·simp only [Act.put,sA,sB,sC,i64_w,i32_w]
          rfl
         refine take_ (i:=3) (N:=some 19) (v:=?_) (a':=?_) (bm 127 10) rfl rfl (take_ofW HT_.out HW_.out (by kernel_rfl)) (fun _ _ _ h=>h) (Or.inl ⟨by rfl,?_⟩) hHeld ?_ ?_
         rotate_left
         ·rintro w' ⟨s0,s1,s2,s3,s4,s5⟩
          go_simp
          with_reducible rfl
         rotate_left
         ·simp only [Act.put,sA,sB,sC,i64_w,i32_w]
          rfl
         refine take_ (i:=7) (N:=some 23) (v:=?_) (a':=?_) (bm 255 10) rfl rfl (take_ofW HT_.out HW_.out (by kernel_rfl)) (fun _ _ _ h=>h) (Or.inl ⟨by rfl,?_⟩) hHeld ?_ ?_
         rotate_left
         ·rintro w' ⟨s0,s1,s2,s3,s4,s5⟩
          go_simp
          with_reducible rfl
         rotate_left
         ·simp only [Act.put,sA,sB,sC,i64_w,i32_w]
          rfl
         refine one_ (i:=8) (N:=some 24) (bm 511 10) rfl rfl (one_of HT_.out (by kernel_rfl)) (by decide) (fun K hK=>?_)
         refine goes_ Try.func30 (by kernel_rfl) rfl #[.agg #[.int .i64 ((rd_T26 l0 x13_1).f0),.int .i64 ((rd_T26 l0 x13_1).f1),.slice A229_2 ((rd_T26 l0 x13_1).f2).length c229_2],.agg #[.int .i64 ((rd_T26 l1 x13_1).f0),.int .i64 ((rd_T26 l1 x13_1).f1),.slice A230_2 ((rd_T26 l1 x13_1).f2).length c230_2]] (by rfl) rfl rfl (by (try simp only [List.map_toArray,List.map_cons,List.map_nil]);rfl) ?_
         with_reducible refine (chanceryref1_SameElem.calls k1 ((rd_T26 l0 x13_1).f0) ((rd_T26 l0 x13_1).f1) _ _ ((rd_T26 l0 x13_1).f2) ((rd_T26 l1 x13_1).f0) ((rd_T26 l1 x13_1).f1) _ _ ((rd_T26 l1 x13_1).f2) true _ ?side1 ?side2 ?side3 ?side4 A8.out).mono ?_
         (case side1=>repeat (exact (Kd.C_below HR229_2.out HB.out)))
         (case side2=>exact HC229_2.out)
         (case side3=>repeat (exact (Kd.C_below HR230_2.out HB.out)))
         (case side4=>exact HC230_2.out)
         rintro e w11 ⟨rfl,hb⟩
         refine ⟨_,rfl,?_⟩
         have n0_:=Aside0.mk (below_step (by with_reducible exact HB.out) hb)
         clear HB
         have HB:=n0_
         clear n0_
         (try clear hb)
         (try clear hb2)
         (try clear hk)
         (try clear hi)
         refine hK.out _ _ ⟨((HB.out.cell (World.block_lt_of_cell? w _ hw229_0)).trans hw229_0),((HB.out.cell (World.block_lt_of_cell? w _ hw229_1)).trans hw229_1),((HB.out.cell (World.block_lt_of_cell? w _ hw229_2)).trans hw229_2),((HB.out.cell (World.block_lt_of_cell? w _ hw230_0)).trans hw230_0),((HB.out.cell (World.block_lt_of_cell? w _ hw230_1)).trans hw230_1),((HB.out.cell (World.block_lt_of_cell? w _ hw230_2)).trans hw230_2)⟩ (fun hHeld=>?_)
         clear hK K
         refine norm_ (a':=?_) ?_ ?_
         rotate_left
         ·show Act.put _ (some 24) _ = _
          simp only [Act.put,sA,sB,sC,i64_w,i32_w]
          rfl
         refine pure_ (i:=9) (N:=some 25) (v:=?_) (a':=?_) (bm 1023 10) rfl rfl (any_of HT_.out (by kernel_rfl)) (fun _ _ _ h=>h) (Or.inl ⟨by rfl,?_⟩) ?_ ?_
         rotate_left
         ·intro w'
          go_simp
          with_reducible rfl
         rotate_left
         ·simp only [Act.put,sA,sB,sC,i64_w,i32_w]
          rfl
         refine done_ (done_of HT_.out (by kernel_rfl)) ?_
         try go_wp2
         go_roundg k1
         case measure=>have:=HK1.out;omega
         case rel=>exact ⟨(wrap64 (x13_1 + 1)),(by rfl),H',⟨by have:=HK1.out;omega⟩,⟨HB.out⟩⟩
        ·replace c9:=Bool.eq_false_iff.mpr c9
         subst c9
         have H1:(some false) = some r:=by rw [if_neg (show ¬ (false = true) by decide)] at H;exact H
         clear H
         have H:=H1
         clear H1
         obtain rfl:=Option.some.inj H
         try go_wp2
         have n0_:=Aside0.mk (below_drew1 HB.out)
         clear HB
         have HB:=n0_
         clear n0_
         have p229:0 ≤ (x13_1:Int):=of_decide_eq_true (by assumption)
         have q229:x13_1 < (l0.length:Int):=of_decide_eq_true (by assumption)
         obtain ⟨ad229,A229_2,c229_2,e229,hx229_0,hx229_1,hx229_2,hl229_2,hi229_2⟩:=at_T26 HR0.out x13_1 p229 q229
         have hw229_2:=hx229_2
         have hw229_1:=hx229_1
         have hw229_0:=hx229_0
         cases e229
         replace hx229_0:=(HB.out.cell (World.block_lt_of_cell? w _ hx229_0)).trans hx229_0
         replace hx229_1:=(HB.out.cell (World.block_lt_of_cell? w _ hx229_1)).trans hx229_1
         replace hx229_2:=(HB.out.cell (World.block_lt_of_cell? w _ hx229_2)).trans hx229_2
         have HR229_2:=Aside0.mk hi229_2
         have HC229_2:=Aside0.mk hl229_2
         clear hi229_2 hl229_2
         replace p229:=eq_true p229
         replace q229:=eq_true q229
         have p230:0 ≤ (x13_1:Int):=of_decide_eq_true (by assumption)
         have q230:x13_1 < (l1.length:Int):=of_decide_eq_true (by assumption)
         obtain ⟨ad230,A230_2,c230_2,e230,hx230_0,hx230_1,hx230_2,hl230_2,hi230_2⟩:=at_T26 HR1.out x13_1 p230 q230
         have hw230_2:=hx230_2
         have hw230_1:=hx230_1
         have hw230_0:=hx230_0
         cases e230
         replace hx230_0:=(HB.out.cell (World.block_lt_of_cell? w _ hx230_0)).trans hx230_0
         replace hx230_1:=(HB.out.cell (World.block_lt_of_cell? w _ hx230_1)).trans hx230_1
         replace hx230_2:=(HB.out.cell (World.block_lt_of_cell? w _ hx230_2)).trans hx230_2
         have HR230_2:=Aside0.mk hi230_2
         have HC230_2:=Aside0.mk hl230_2
         clear hi230_2 hl230_2
         replace p230:=eq_true p230
         replace q230:=eq_true q230
         refine start_ (n:=10) (S:=fun w'=>w'.cell? (ad229.add ((x13_1).toNat * 3)) = some (.int .i64 ((rd_T26 l0 x13_1).f0)) ∧ w'.cell? ⟨(ad229.add ((x13_1).toNat * 3)).block,(ad229.add ((x13_1).toNat * 3)).off + 1,none⟩ = some (.int .i64 ((rd_T26 l0 x13_1).f1)) ∧ w'.cell? ⟨(ad229.add ((x13_1).toNat * 3)).block,(ad229.add ((x13_1).toNat * 3)).off + 2,none⟩ = some (.slice A229_2 ((rd_T26 l0 x13_1).f2).length c229_2) ∧ w'.cell? (ad230.add ((x13_1).toNat * 3)) = some (.int .i64 ((rd_T26 l1 x13_1).f0)) ∧ w'.cell? ⟨(ad230.add ((x13_1).toNat * 3)).block,(ad230.add ((x13_1).toNat * 3)).off + 1,none⟩ = some (.int .i64 ((rd_T26 l1 x13_1).f1)) ∧ w'.cell? ⟨(ad230.add ((x13_1).toNat * 3)).block,(ad230.add ((x13_1).toNat * 3)).off + 2,none⟩ = some (.slice A230_2 ((rd_T26 l1 x13_1).f2).length c230_2)) (ds:=[]) #[false,false,false,false,false,false,false,false,false,false] (by kernel_rfl) rfl rfl ⟨((HB.out.cell (World.block_lt_of_cell? w _ hw229_0)).trans hw229_0),((HB.out.cell (World.block_lt_of_cell? w _ hw229_1)).trans hw229_1),((HB.out.cell (World.block_lt_of_cell? w _ hw229_2)).trans hw229_2),((HB.out.cell (World.block_lt_of_cell? w _ hw230_0)).trans hw230_0),((HB.out.cell (World.block_lt_of_cell? w _ hw230_1)).trans hw230_1),((HB.out.cell (World.block_lt_of_cell? w _ hw230_2)).trans hw230_2)⟩ (fun hHeld=>?_);refine with_tabW chanceryref1_SameFlow.tab6 chanceryref1_SameFlow.bits6 (fun HT_ HW_=>?_)
         generalize wr.drew = w12 at HB HR229_2 HR230_2 hx229_0 hx229_1 hx229_2 hx230_0 hx230_1 hx230_2 hHeld ⊢
         refine pure_ (i:=0) (N:=some 16) (v:=?_) (a':=?_) (bm 1 10) rfl rfl (any_of HT_.out (by kernel_rfl)) (fun _ _ _ h=>h) (Or.inl ⟨by rfl,?_⟩) ?_ ?_
         rotate_left
         ·intro w'
          go_simp
          with_reducible rfl
         rotate_left
         ·simp only [Act.put,sA,sB,sC,i64_w,i32_w]
          rfl
         refine pure_ (i:=1) (N:=some 17) (v:=?_) (a':=?_) (bm 3 10) rfl rfl (any_of HT_.out (by kernel_rfl)) (fun _ _ _ h=>h) (Or.inl ⟨by rfl,?_⟩) ?_ ?_
         rotate_left
         ·intro w'
          go_simp
          with_reducible rfl
         rotate_left
         ·simp only [Act.put,sA,sB,sC,i64_w,i32_w]
          rfl
         refine pure_ (i:=2) (N:=some 18) (v:=?_) (a':=?_) (bm 7 10) rfl rfl (any_of HT_.out (by kernel_rfl)) (fun _ _ _ h=>h) (Or.inl ⟨by rfl,?_⟩) ?_ ?_
         rotate_left
         ·intro w'
          go_simp
          with_reducible rfl
         rotate_left
         ·simp only [Act.put,sA,sB,sC,i64_w,i32_w]
          rfl
         refine pure_ (i:=4) (N:=some 20) (v:=?_) (a':=?_) (bm 23 10) rfl rfl (any_of HT_.out (by kernel_rfl)) (fun _ _ _ h=>h) (Or.inl ⟨by rfl,?_⟩) ?_ ?_
         rotate_left
         ·intro w'
          go_simp
          with_reducible rfl
         rotate_left
         ·simp only [Act.put,sA,sB,sC,i64_w,i32_w]
          rfl
         refine pure_ (i:=5) (N:=some 21) (v:=?_) (a':=?_) (bm 55 10) rfl rfl (any_of HT_.out (by kernel_rfl)) (fun _ _ _ h=>h) (Or.inl ⟨by rfl,?_⟩) ?_ ?_
         rotate_left
         ·intro w'
          go_simp
          with_reducible rfl
         rotate_left
         ·simp only [Act.put,sA,sB,sC,i64_w,i32_w]
          rfl
         refine pure_ (i:=6) (N:=some 22) (v:=?_) (a':=?_) (bm 119 10) rfl rfl (any_of HT_.out (by kernel_rfl)) (fun _ _ _ h=>h) (Or.inl ⟨by rfl,?_⟩) ?_ ?_
         rotate_left
         ·intro w'
          go_simp
          with_reducible rfl
         rotate_left
         ·simp only [Act.put,sA,sB,sC,i64_w,i32_w]
          rfl
         refine take_ (i:=3) (N:=some 19) (v:=?_) (a':=?_) (bm 127 10) rfl rfl (take_ofW HT_.out HW_.out (by kernel_rfl)) (fun _ _ _ h=>h) (Or.inl ⟨by rfl,?_⟩) hHeld ?_ ?_
         rotate_left
         ·rintro w' ⟨s0,s1,s2,s3,s4,s5⟩
          go_simp
          with_reducible rfl
         rotate_left
         ·simp only [Act.put,sA,sB,sC,i64_w,i32_w]
          rfl
         refine take_ (i:=7) (N:=some 23) (v:=?_) (a':=?_) (bm 255 10) rfl rfl (take_ofW HT_.out HW_.out (by kernel_rfl)) (fun _ _ _ h=>h) (Or.inl ⟨by rfl,?_⟩) hHeld ?_ ?_
         rotate_left
         ·rintro w' ⟨s0,s1,s2,s3,s4,s5⟩
          go_simp
          with_reducible rfl
         rotate_left
         ·simp only [Act.put,sA,sB,sC,i64_w,i32_w]
          rfl
         refine one_ (i:=8) (N:=some 24) (bm 511 10) rfl rfl (one_of HT_.out (by kernel_rfl)) (by decide) (fun K hK=>?_)
         refine goes_ Try.func30 (by kernel_rfl) rfl #[.agg #[.int .i64 ((rd_T26 l0 x13_1).f0),.int .i64 ((rd_T26 l0 x13_1).f1),.slice A229_2 ((rd_T26 l0 x13_1).f2).length c229_2],.agg #[.int .i64 ((rd_T26 l1 x13_1).f0),.int .i64 ((rd_T26 l1 x13_1).f1),.slice A230_2 ((rd_T26 l1 x13_1).f2).length c230_2]] (by rfl) rfl rfl (by (try simp only [List.map_toArray,List.map_cons,List.map_nil]);rfl) ?_
         with_reducible refine (chanceryref1_SameElem.calls k1 ((rd_T26 l0 x13_1).f0) ((rd_T26 l0 x13_1).f1) _ _ ((rd_T26 l0 x13_1).f2) ((rd_T26 l1 x13_1).f0) ((rd_T26 l1 x13_1).f1) _ _ ((rd_T26 l1 x13_1).f2) false _ ?side1 ?side2 ?side3 ?side4 A8.out).mono ?_
         (case side1=>repeat (exact (Kd.C_below HR229_2.out HB.out)))
         (case side2=>exact HC229_2.out)
         (case side3=>repeat (exact (Kd.C_below HR230_2.out HB.out)))
         (case side4=>exact HC230_2.out)
         rintro e w13 ⟨rfl,hb⟩
         refine ⟨_,rfl,?_⟩
         have n0_:=Aside0.mk (below_step (by with_reducible exact HB.out) hb)
         clear HB
         have HB:=n0_
         clear n0_
         (try clear hb)
         (try clear hb2)
         (try clear hk)
         (try clear hi)
         refine hK.out _ _ ⟨((HB.out.cell (World.block_lt_of_cell? w _ hw229_0)).trans hw229_0),((HB.out.cell (World.block_lt_of_cell? w _ hw229_1)).trans hw229_1),((HB.out.cell (World.block_lt_of_cell? w _ hw229_2)).trans hw229_2),((HB.out.cell (World.block_lt_of_cell? w _ hw230_0)).trans hw230_0),((HB.out.cell (World.block_lt_of_cell? w _ hw230_1)).trans hw230_1),((HB.out.cell (World.block_lt_of_cell? w _ hw230_2)).trans hw230_2)⟩ (fun hHeld=>?_)
         clear hK K
         refine norm_ (a':=?_) ?_ ?_
         rotate_left
         ·show Act.put _ (some 24) _ = _
          simp only [Act.put,sA,sB,sC,i64_w,i32_w]
          rfl
         refine pure_ (i:=9) (N:=some 25) (v:=?_) (a':=?_) (bm 1023 10) rfl rfl (any_of HT_.out (by kernel_rfl)) (fun _ _ _ h=>h) (Or.inl ⟨by rfl,?_⟩) ?_ ?_
         rotate_left
         ·intro w'
          go_simp
          with_reducible rfl
         rotate_left
         ·simp only [Act.put,sA,sB,sC,i64_w,i32_w]
          rfl
         refine done_ (done_of HT_.out (by kernel_rfl)) ?_
         try go_wp2
         go_ret
         exact ⟨by rfl,HB.out⟩
       ·rw [if_neg c7] at H
        exact absurd H (by simp)
      ·rw [if_neg c6] at H
       exact absurd H (by simp)
     ·rw [if_neg c5] at H
      exact absurd H (by simp)
    ·rw [if_neg c4] at H
     have c4b0:decide (x13_1 < (l0.length:Int)) = false:=decide_eq_false c4
     clear c4
     obtain rfl:=Option.some.inj H
     go_wp2
     go_ret
     exact ⟨by rfl,HB.out⟩
 ·rw [if_neg c3] at H
  have c3b0:((l0.length:Int) == (l1.length:Int)) = false:=beq_eq_false_iff_ne.mpr c3
  have c3b1:((l0.length:Int) != (l1.length:Int)) = true:=bne_iff_ne.mpr c3
  have c3b2:(l0.length == l1.length) = false:=by (simp at c3 ⊢;omega)
  obtain rfl:=Option.some.inj H
  go_enter Try.func28,Try.ntmps28
  go_wp2
  go_ret
  exact ⟨by rfl,HB.out⟩
def chancerykeep1_letters.l0:Nat → ByteArray → List (S26) → Int → Int → Option ((List (S26)))
 | 0,_,_,_,_=>none
 | k + 1,x0,x3,x6,x7=>if x7 < x6 then (if 0 ≤ x7 then (if x7 < (x0.size:Int) then (if x3.length < 3518437208883 then (chancerykeep1_letters.l0 k x0 (x3 ++ [(⟨wrap64 (bt x0 x7),0,([]:List (S91))⟩:S26)]) x6 (wrap64 (x7 + 1))) else (none)) else (none)) else (none)) else (some x3)
def chancerykeep1_letters.f (k:Nat) (a0:ByteArray):Option ((List (S26))):=chancerykeep1_letters.l0 k a0 ([]:List (S26)) (a0.size:Int) 0
theorem chancerykeep1_letters.mono_l:∀ k,(∀ y0 y1 y2 y3,LeO (chancerykeep1_letters.l0 k y0 y1 y2 y3) (chancerykeep1_letters.l0 (k + 1) y0 y1 y2 y3))
 | 0=>fun _ _ _ _ r h=>by simp [chancerykeep1_letters.l0] at h
 | k + 1=>by
  have ih0:=chancerykeep1_letters.mono_l k
  ·intro y0 y1 y2 y3
   unfold chancerykeep1_letters.l0
   repeat' first | (with_reducible exact ih0 _ _ _ _) | (with_reducible exact LeO.refl _) | (with_reducible refine LeO.ite ?_ ?_)
theorem chancerykeep1_letters.mono:∀ a0 k,LeO (chancerykeep1_letters.f k a0) (chancerykeep1_letters.f (k + 1) a0):=by
 intro a0 k
 have ih0:=chancerykeep1_letters.mono_l k
 unfold chancerykeep1_letters.f
 repeat' (with_reducible exact ih0 _ _ _ _)
set_option maxHeartbeats 8000000 in
set_option maxRecDepth 100000 in
theorem chancerykeep1_letters.calls (k:Nat) (a0:ByteArray) (r:List (S26)) (w:World) (h:chancerykeep1_letters.f k a0 = some r) :
 Calls Try.prog 48 #[.string a0] w fun e w'=>∃ v0_:Value,e = .returned (v0_) ∧ Kd.S k26 26 w' w.heap.size (fun _=>True) v0_ r ∧ Below w.heap.size w w':=by
 have hu26:=Try.underlying26
 have HB:=Aside0.mk (Below.refl w.heap.size w)
 have H:(chancerykeep1_letters.l0 k a0 ([]:List (S26)) (a0.size:Int) 0) = some r:=h
 clear h
 have H':=Aside0.mk H
 clear H
 go_enter Try.func48,Try.ntmps48
 go_wp2
 go_loopg [3,7] k (fun kq v3 v7 w'=>∃ (x3_1:List (S26)) (x7_1:Int),v7 = .int .i64 x7_1 ∧ Aside0 (chancerykeep1_letters.l0 kq a0 x3_1 (a0.size:Int) x7_1 = some r) ∧ Aside0 (kq ≤ k) ∧ Aside0 (Kd.S k26 26 w' w.heap.size (fun _=>True) v3 x3_1) ∧ Aside0 (Below w.heap.size w w'))
 case atStart=>exact ⟨(([]:List (S26))),(0),(by rfl),H',⟨Nat.le_refl _⟩,⟨by exact Kd.S_nil _ _ _ _ _⟩,⟨HB.out⟩⟩
 case round =>
  clear H'
  obtain ⟨x3_1,x7_1,rfl,HA,HK1,HO_3,HB⟩:=hrel
  cases gk with
  | zero=>exact absurd HA.out (by simp [chancerykeep1_letters.l0])
  | succ k1 =>
   have H:=HA.out
   clear HA
   simp only [chancerykeep1_letters.l0] at H
   by_cases c2:x7_1 < (a0.size:Int)
   ·rw [if_pos c2] at H
    have c2b0:decide (x7_1 < (a0.size:Int)) = true:=decide_eq_true c2
    clear c2
    by_cases c3:0 ≤ x7_1
    ·rw [if_pos c3] at H
     have c3b0:decide (0 ≤ x7_1) = true:=decide_eq_true c3
     clear c3
     by_cases c4:x7_1 < (a0.size:Int)
     ·rw [if_pos c4] at H
      have c4b0:decide (x7_1 < (a0.size:Int)) = true:=decide_eq_true c4
      clear c4
      by_cases c6:x3_1.length < 3518437208883
      ·rw [if_pos c6] at H
       have LMc6:=Aside0.mk c6
       clear c6
       obtain ⟨y232,hy232⟩:∃ y_:List (S26),y_ = (x3_1 ++ [(⟨wrap64 (bt a0 x7_1),0,([]:List (S91))⟩:S26)]):=⟨_,rfl⟩
       replace H:(chancerykeep1_letters.l0 k1 a0 y232 (a0.size:Int) (wrap64 (x7_1 + 1))) = some r:=by (rw [hy232];with_reducible exact H)
       have Ny232:=Aside0.mk hy232
       clear hy232
       have H':=Aside0.mk H
       clear H
       have p5:0 ≤ (x7_1:Int):=of_decide_eq_true (by assumption)
       have q5:x7_1 < (a0.size:Int):=of_decide_eq_true (by assumption)
       have hx5:=bt_at a0 x7_1
       replace p5:=eq_true p5
       replace q5:=eq_true q5
       go_wp2_with (((with_reducible refine gate_builtin (b:=.append) (xs:=#[.tmp 10,.tmp 16]) rfl ?_);at_builtin;refine Kd.S_append k26 (w0:=w) w.heap.size rfl (.tmp 10) (.tmp 16) 22 26 (.agg #[(.int .i64 0),(.int .i64 0),(.slice none 0 0)]) 40 rfl Try.underlying22 info26 rfl (by decide) (by omega) u3 x3_1 (⟨wrap64 (bt a0 x7_1),0,([]:List (S91))⟩:S26) [.int .i64 (wrap64 (bt a0 x7_1)),.int .i64 0,.slice none 0 0] (fun _=>True) (fun _=>False) rfl rfl ?aP (fun k_ hk_=>hk_.elim) ?aF ?aO ?aB ?aS ?aL ?_;(case aP=>exact k26_mkM _ _ _ (⟨wrap64 (bt a0 x7_1),0,([]:List (S91))⟩:S26) (Kd.R_nil _ _ _ _ _));(case aB=>exact (by with_reducible exact HB.out));(case aF=>exact (fun _ _=>trivial));(case aO=>exact (by exact Kd.S_mono HO_3.out (fun k_ hk=>⟨trivial,fun e_=>e_⟩)));(case aS=>exact (below_size (by with_reducible exact HB.out)));(case aL=>have:=LMc6.out;omega);intro v233 w7 ho hb hg hat;rw [← Ny232.out] at ho;have n0_:=Aside0.mk hb;have n1_:=Aside0.mk ho;clear HB;clear HO_3;have HB:=n0_;have HO234:=n1_;clear n0_ n1_;clear ho hb hg hat))
       go_roundg k1
       case measure=>have:=HK1.out;omega
       case rel=>exact ⟨(y232),(wrap64 (x7_1 + 1)),(by rfl),H',⟨by have:=HK1.out;omega⟩,⟨by exact HO234.out⟩,⟨HB.out⟩⟩
      ·rw [if_neg c6] at H
       exact absurd H (by simp)
     ·rw [if_neg c4] at H
      exact absurd H (by simp)
    ·rw [if_neg c3] at H
     exact absurd H (by simp)
   ·rw [if_neg c2] at H
    have c2b0:decide (x7_1 < (a0.size:Int)) = false:=decide_eq_false c2
    clear c2
    obtain rfl:=Option.some.inj H
    go_wp2
    go_ret
    exact ⟨_,by rfl,by exact HO_3.out,HB.out⟩
def chanceryref1_In.f (a0:Int) (a1:Int) (a2:Int):Option (Bool):=if a0 ≥ a1 then (some (decide (a0 ≤ a2))) else (some false)
set_option maxHeartbeats 8000000 in
set_option maxRecDepth 100000 in
theorem chanceryref1_In.calls (a0:Int) (a1:Int) (a2:Int) (r:Bool) (w:World) (h:chanceryref1_In.f a0 a1 a2 = some r) :
 Calls Try.prog 24 #[.int .i64 a0,.int .i64 a1,.int .i64 a2] w fun e w'=>e = .returned (.bool r) ∧ Drawn0 w w':=by
 have H:(if a0 ≥ a1 then (some (decide (a0 ≤ a2))) else (some false)) = some r:=h
 clear h
 by_cases c4:a0 ≥ a1
 ·rw [if_pos c4] at H
  have c4b0:decide (a1 ≤ a0) = true:=decide_eq_true c4
  clear c4
  obtain rfl:=Option.some.inj H
  go_enter Try.func24,Try.ntmps24
  go_wp2
  go_ret
  exact ⟨by rfl,by repeat (exact Drawn0.refl _)⟩
 ·rw [if_neg c4] at H
  have c4b0:decide (a1 ≤ a0) = false:=decide_eq_false c4
  clear c4
  obtain rfl:=Option.some.inj H
  go_enter Try.func24,Try.ntmps24
  go_wp2
  go_ret
  exact ⟨by rfl,by repeat (exact Drawn0.refl _)⟩
def chanceryref1_Char.f (a0:Int):Option (Bool):=if a0 = 9 then (some true) else (if a0 = 10 then (some true) else ((chanceryref1_In.f a0 32 126).bind fun t262=>(if t262 = true then (some true) else ((chanceryref1_In.f a0 160 55295).bind fun t263=>(if t263 = true then (some true) else ((chanceryref1_In.f a0 57344 1114111).bind fun t264=>(some t264)))))))
set_option maxHeartbeats 8000000 in
set_option maxRecDepth 100000 in
theorem chanceryref1_Char.calls (a0:Int) (r:Bool) (w:World) (h:chanceryref1_Char.f a0 = some r) :
 Calls Try.prog 86 #[.int .i64 a0] w fun e w'=>e = .returned (.bool r) ∧ Drawn0 w w':=by
 have H:(if a0 = 9 then (some true) else (if a0 = 10 then (some true) else ((chanceryref1_In.f a0 32 126).bind fun t262=>(if t262 = true then (some true) else ((chanceryref1_In.f a0 160 55295).bind fun t263=>(if t263 = true then (some true) else ((chanceryref1_In.f a0 57344 1114111).bind fun t264=>(some t264)))))))) = some r:=h
 clear h
 by_cases c2:a0 = 9
 ·rw [if_pos c2] at H
  have c2b0:(a0 == 9) = true:=beq_iff_eq.mpr c2
  have c2b1:(a0 != 9) = false:=bne_eq_false_iff_eq.mpr c2
  clear c2
  obtain rfl:=Option.some.inj H
  go_enter Try.func86,Try.ntmps86
  go_wp2
  go_ret
  exact ⟨by rfl,by repeat (exact Drawn0.refl _)⟩
 ·rw [if_neg c2] at H
  have c2b0:(a0 == 9) = false:=beq_eq_false_iff_ne.mpr c2
  have c2b1:(a0 != 9) = true:=bne_iff_ne.mpr c2
  by_cases c3:a0 = 10
  ·rw [if_pos c3] at H
   have c3b0:(a0 == 10) = true:=beq_iff_eq.mpr c3
   have c3b1:(a0 != 10) = false:=bne_eq_false_iff_eq.mpr c3
   clear c3
   obtain rfl:=Option.some.inj H
   go_enter Try.func86,Try.ntmps86
   go_wp2
   go_ret
   exact ⟨by rfl,by repeat (exact Drawn0.refl _)⟩
  ·rw [if_neg c3] at H
   have c3b0:(a0 == 10) = false:=beq_eq_false_iff_ne.mpr c3
   have c3b1:(a0 != 10) = true:=bne_iff_ne.mpr c3
   replace H:=Option.bind_eq_some_iff.mp H
   obtain ⟨t262,A40,H⟩:=H
   replace H:(if t262 = true then (some true) else ((chanceryref1_In.f a0 160 55295).bind fun t263=>(if t263 = true then (some true) else ((chanceryref1_In.f a0 57344 1114111).bind fun t264=>(some t264))))) = some r:=H
   have A4:=Aside0.mk A40
   clear A40
   by_cases c5:t262 = true
   ·subst c5
    have H1:(some true) = some r:=by rw [if_pos rfl] at H;exact H
    clear H
    have H:=H1
    clear H1
    obtain rfl:=Option.some.inj H
    go_enter Try.func86,Try.ntmps86
    go_wp2_with ((go_at_call 24;(with_reducible refine (chanceryref1_In.calls a0 32 126 true _ A4.out).mono ?_);rintro e w' ⟨rfl,⟨nd,rfl⟩⟩))
    go_ret
    exact ⟨by rfl,by repeat (first | exact Drawn0.refl _ | apply Drawn0.step)⟩
   ·replace c5:=Bool.eq_false_iff.mpr c5
    subst c5
    have H1:((chanceryref1_In.f a0 160 55295).bind fun t263=>(if t263 = true then (some true) else ((chanceryref1_In.f a0 57344 1114111).bind fun t264=>(some t264)))) = some r:=by rw [if_neg (show ¬ (false = true) by decide)] at H;exact H
    clear H
    have H:=H1
    clear H1
    replace H:=Option.bind_eq_some_iff.mp H
    obtain ⟨t263,A60,H⟩:=H
    replace H:(if t263 = true then (some true) else ((chanceryref1_In.f a0 57344 1114111).bind fun t264=>(some t264))) = some r:=H
    have A6:=Aside0.mk A60
    clear A60
    by_cases c7:t263 = true
    ·subst c7
     have H1:(some true) = some r:=by rw [if_pos rfl] at H;exact H
     clear H
     have H:=H1
     clear H1
     obtain rfl:=Option.some.inj H
     go_enter Try.func86,Try.ntmps86
     go_wp2_with (first | (go_at_call 24;(with_reducible refine (chanceryref1_In.calls a0 32 126 false _ A4.out).mono ?_);rintro e w' ⟨rfl,⟨nd,rfl⟩⟩) | (go_at_call 24;(with_reducible refine (chanceryref1_In.calls a0 160 55295 true _ A6.out).mono ?_);rintro e w' ⟨rfl,⟨nd,rfl⟩⟩))
     go_ret
     exact ⟨by rfl,by repeat (first | exact Drawn0.refl _ | apply Drawn0.step)⟩
    ·replace c7:=Bool.eq_false_iff.mpr c7
     subst c7
     have H1:((chanceryref1_In.f a0 57344 1114111).bind fun t264=>(some t264)) = some r:=by rw [if_neg (show ¬ (false = true) by decide)] at H;exact H
     clear H
     have H:=H1
     clear H1
     replace H:=Option.bind_eq_some_iff.mp H
     obtain ⟨t264,A80,H⟩:=H
     replace H:(some t264) = some r:=H
     have A8:=Aside0.mk A80
     clear A80
     obtain rfl:=Option.some.inj H
     go_enter Try.func86,Try.ntmps86
     go_wp2_with (first | (go_at_call 24;(with_reducible refine (chanceryref1_In.calls a0 32 126 false _ A4.out).mono ?_);rintro e w' ⟨rfl,⟨nd,rfl⟩⟩) | (go_at_call 24;(with_reducible refine (chanceryref1_In.calls a0 160 55295 false _ A6.out).mono ?_);rintro e w' ⟨rfl,⟨nd,rfl⟩⟩) | (go_at_call 24;(with_reducible refine (chanceryref1_In.calls a0 57344 1114111 t264 _ A8.out).mono ?_);rintro e w' ⟨rfl,⟨nd,rfl⟩⟩))
     go_ret
     exact ⟨by rfl,by repeat (first | exact Drawn0.refl _ | apply Drawn0.step)⟩
def chanceryref1_Name.l0:Nat → ByteArray → Int → Int → Option (Bool)
 | 0,_,_,_=>none
 | k + 1,x0,x6,x7=>if x7 < x6 then (if 0 ≤ x7 then (if x7 < (x0.size:Int) then (if (bt x0 x7) ≥ 97 then (if ((bt x0 x7) ≤ 122) then (chanceryref1_Name.l0 k x0 x6 (wrap64 (x7 + 1))) else (if x7 = 0 then (some false) else (if (bt x0 x7) = 46 then (chanceryref1_Name.l0 k x0 x6 (wrap64 (x7 + 1))) else (if (bt x0 x7) = 45 then (chanceryref1_Name.l0 k x0 x6 (wrap64 (x7 + 1))) else (if (bt x0 x7) < 48 then (some false) else (if (bt x0 x7) > 57 then (some false) else (chanceryref1_Name.l0 k x0 x6 (wrap64 (x7 + 1))))))))) else (if x7 = 0 then (some false) else (if (bt x0 x7) = 46 then (chanceryref1_Name.l0 k x0 x6 (wrap64 (x7 + 1))) else (if (bt x0 x7) = 45 then (chanceryref1_Name.l0 k x0 x6 (wrap64 (x7 + 1))) else (if (bt x0 x7) < 48 then (some false) else (if (bt x0 x7) > 57 then (some false) else (chanceryref1_Name.l0 k x0 x6 (wrap64 (x7 + 1))))))))) else (none)) else (none)) else (if (x0.size:Int) ≥ 1 then (some (decide ((x0.size:Int) ≤ 24))) else (some false))
def chanceryref1_Name.f (k:Nat) (a0:ByteArray):Option (Bool):=chanceryref1_Name.l0 k a0 (a0.size:Int) 0
theorem chanceryref1_Name.mono_l:∀ k,(∀ y0 y1 y2,LeO (chanceryref1_Name.l0 k y0 y1 y2) (chanceryref1_Name.l0 (k + 1) y0 y1 y2))
 | 0=>fun _ _ _ r h=>by simp [chanceryref1_Name.l0] at h
 | k + 1=>by
  have ih0:=chanceryref1_Name.mono_l k
  ·intro y0 y1 y2
   unfold chanceryref1_Name.l0
   repeat' first | (with_reducible exact ih0 _ _ _) | (with_reducible exact LeO.refl _) | (with_reducible refine LeO.ite ?_ ?_)
theorem chanceryref1_Name.mono:∀ a0 k,LeO (chanceryref1_Name.f k a0) (chanceryref1_Name.f (k + 1) a0):=by
 intro a0 k
 have ih0:=chanceryref1_Name.mono_l k
 unfold chanceryref1_Name.f
 repeat' (with_reducible exact ih0 _ _ _)
set_option maxHeartbeats 8000000 in
set_option maxRecDepth 100000 in
theorem chanceryref1_Name.calls (k:Nat) (a0:ByteArray) (r:Bool) (w:World) (h:chanceryref1_Name.f k a0 = some r) :
 Calls Try.prog 127 #[.string a0] w fun e w'=>e = .returned (.bool r) ∧ Drawn0 w w':=by
 have H:(chanceryref1_Name.l0 k a0 (a0.size:Int) 0) = some r:=h
 clear h
 have H':=Aside0.mk H
 clear H
 go_enter Try.func127,Try.ntmps127
 go_wp2
 go_loopg [7] k (fun kq v7 w'=>∃ (x7_1:Int),v7 = .int .i64 x7_1 ∧ Aside0 (chanceryref1_Name.l0 kq a0 (a0.size:Int) x7_1 = some r) ∧ Aside0 (kq ≤ k) ∧ Drawn0 w w')
 case atStart=>exact ⟨(0),(by rfl),H',⟨Nat.le_refl _⟩,by repeat (exact Drawn0.refl _)⟩
 case round =>
  clear H'
  obtain ⟨x7_1,rfl,HA,HK1,⟨m1,rfl⟩⟩:=hrel
  cases gk with
  | zero=>exact absurd HA.out (by simp [chanceryref1_Name.l0])
  | succ k1 =>
   have H:=HA.out
   clear HA
   simp only [chanceryref1_Name.l0] at H
   by_cases c2:x7_1 < (a0.size:Int)
   ·rw [if_pos c2] at H
    have c2b0:decide (x7_1 < (a0.size:Int)) = true:=decide_eq_true c2
    clear c2
    by_cases c3:0 ≤ x7_1
    ·rw [if_pos c3] at H
     have c3b0:decide (0 ≤ x7_1) = true:=decide_eq_true c3
     clear c3
     by_cases c4:x7_1 < (a0.size:Int)
     ·rw [if_pos c4] at H
      have c4b0:decide (x7_1 < (a0.size:Int)) = true:=decide_eq_true c4
      clear c4
      by_cases c6:(bt a0 x7_1) ≥ 97
      ·rw [if_pos c6] at H
       have c6b0:decide (97 ≤ (bt a0 x7_1)) = true:=decide_eq_true c6
       clear c6
       by_cases c8:((bt a0 x7_1) ≤ 122)
       ·rw [if_pos c8] at H
        have c8b0:decide ((bt a0 x7_1) ≤ 122) = true:=decide_eq_true c8
        clear c8
        have H':=Aside0.mk H
        clear H
        have p5:0 ≤ (x7_1:Int):=of_decide_eq_true (by assumption)
        have q5:x7_1 < (a0.size:Int):=of_decide_eq_true (by assumption)
        have hx5:=bt_at a0 x7_1
        replace p5:=eq_true p5
        replace q5:=eq_true q5
        have p7:0 ≤ (x7_1:Int):=of_decide_eq_true (by assumption)
        have q7:x7_1 < (a0.size:Int):=of_decide_eq_true (by assumption)
        have hx7:=bt_at a0 x7_1
        replace p7:=eq_true p7
        replace q7:=eq_true q7
        go_wp2
        go_roundg k1
        case measure=>have:=HK1.out;omega
        case rel=>exact ⟨(wrap64 (x7_1 + 1)),(by rfl),H',⟨by have:=HK1.out;omega⟩,by repeat (first | exact Drawn0.refl _ | apply Drawn0.step)⟩
       ·rw [if_neg c8] at H
        have c8b0:decide ((bt a0 x7_1) ≤ 122) = false:=decide_eq_false c8
        clear c8
        by_cases c9:x7_1 = 0
        ·rw [if_pos c9] at H
         have c9b0:(x7_1 == 0) = true:=beq_iff_eq.mpr c9
         have c9b1:(x7_1 != 0) = false:=bne_eq_false_iff_eq.mpr c9
         clear c9
         obtain rfl:=Option.some.inj H
         have p5:0 ≤ (x7_1:Int):=of_decide_eq_true (by assumption)
         have q5:x7_1 < (a0.size:Int):=of_decide_eq_true (by assumption)
         have hx5:=bt_at a0 x7_1
         replace p5:=eq_true p5
         replace q5:=eq_true q5
         have p7:0 ≤ (x7_1:Int):=of_decide_eq_true (by assumption)
         have q7:x7_1 < (a0.size:Int):=of_decide_eq_true (by assumption)
         have hx7:=bt_at a0 x7_1
         replace p7:=eq_true p7
         replace q7:=eq_true q7
         go_wp2
         go_ret
         exact ⟨by rfl,by repeat (first | exact Drawn0.refl _ | apply Drawn0.step)⟩
        ·rw [if_neg c9] at H
         have c9b0:(x7_1 == 0) = false:=beq_eq_false_iff_ne.mpr c9
         have c9b1:(x7_1 != 0) = true:=bne_iff_ne.mpr c9
         by_cases c11:(bt a0 x7_1) = 46
         ·rw [if_pos c11] at H
          have c11b0:((bt a0 x7_1) == 46) = true:=beq_iff_eq.mpr c11
          have c11b1:((bt a0 x7_1) != 46) = false:=bne_eq_false_iff_eq.mpr c11
          clear c11
          have H':=Aside0.mk H
          clear H
          have p5:0 ≤ (x7_1:Int):=of_decide_eq_true (by assumption)
          have q5:x7_1 < (a0.size:Int):=of_decide_eq_true (by assumption)
          have hx5:=bt_at a0 x7_1
          replace p5:=eq_true p5
          replace q5:=eq_true q5
          have p7:0 ≤ (x7_1:Int):=of_decide_eq_true (by assumption)
          have q7:x7_1 < (a0.size:Int):=of_decide_eq_true (by assumption)
          have hx7:=bt_at a0 x7_1
          replace p7:=eq_true p7
          replace q7:=eq_true q7
          have p10:0 ≤ (x7_1:Int):=of_decide_eq_true (by assumption)
          have q10:x7_1 < (a0.size:Int):=of_decide_eq_true (by assumption)
          have hx10:=bt_at a0 x7_1
          replace p10:=eq_true p10
          replace q10:=eq_true q10
          go_wp2
          go_roundg k1
          case measure=>have:=HK1.out;omega
          case rel=>exact ⟨(wrap64 (x7_1 + 1)),(by rfl),H',⟨by have:=HK1.out;omega⟩,by repeat (first | exact Drawn0.refl _ | apply Drawn0.step)⟩
         ·rw [if_neg c11] at H
          have c11b0:((bt a0 x7_1) == 46) = false:=beq_eq_false_iff_ne.mpr c11
          have c11b1:((bt a0 x7_1) != 46) = true:=bne_iff_ne.mpr c11
          by_cases c13:(bt a0 x7_1) = 45
          ·rw [if_pos c13] at H
           have c13b0:((bt a0 x7_1) == 45) = true:=beq_iff_eq.mpr c13
           have c13b1:((bt a0 x7_1) != 45) = false:=bne_eq_false_iff_eq.mpr c13
           clear c13
           have H':=Aside0.mk H
           clear H
           have p5:0 ≤ (x7_1:Int):=of_decide_eq_true (by assumption)
           have q5:x7_1 < (a0.size:Int):=of_decide_eq_true (by assumption)
           have hx5:=bt_at a0 x7_1
           replace p5:=eq_true p5
           replace q5:=eq_true q5
           have p7:0 ≤ (x7_1:Int):=of_decide_eq_true (by assumption)
           have q7:x7_1 < (a0.size:Int):=of_decide_eq_true (by assumption)
           have hx7:=bt_at a0 x7_1
           replace p7:=eq_true p7
           replace q7:=eq_true q7
           have p10:0 ≤ (x7_1:Int):=of_decide_eq_true (by assumption)
           have q10:x7_1 < (a0.size:Int):=of_decide_eq_true (by assumption)
           have hx10:=bt_at a0 x7_1
           replace p10:=eq_true p10
           replace q10:=eq_true q10
           have p12:0 ≤ (x7_1:Int):=of_decide_eq_true (by assumption)
           have q12:x7_1 < (a0.size:Int):=of_decide_eq_true (by assumption)
           have hx12:=bt_at a0 x7_1
           replace p12:=eq_true p12
           replace q12:=eq_true q12
           go_wp2
           go_roundg k1
           case measure=>have:=HK1.out;omega
           case rel=>exact ⟨(wrap64 (x7_1 + 1)),(by rfl),H',⟨by have:=HK1.out;omega⟩,by repeat (first | exact Drawn0.refl _ | apply Drawn0.step)⟩
          ·rw [if_neg c13] at H
           have c13b0:((bt a0 x7_1) == 45) = false:=beq_eq_false_iff_ne.mpr c13
           have c13b1:((bt a0 x7_1) != 45) = true:=bne_iff_ne.mpr c13
           by_cases c15:(bt a0 x7_1) < 48
           ·rw [if_pos c15] at H
            have c15b0:decide ((bt a0 x7_1) < 48) = true:=decide_eq_true c15
            clear c15
            obtain rfl:=Option.some.inj H
            have p5:0 ≤ (x7_1:Int):=of_decide_eq_true (by assumption)
            have q5:x7_1 < (a0.size:Int):=of_decide_eq_true (by assumption)
            have hx5:=bt_at a0 x7_1
            replace p5:=eq_true p5
            replace q5:=eq_true q5
            have p7:0 ≤ (x7_1:Int):=of_decide_eq_true (by assumption)
            have q7:x7_1 < (a0.size:Int):=of_decide_eq_true (by assumption)
            have hx7:=bt_at a0 x7_1
            replace p7:=eq_true p7
            replace q7:=eq_true q7
            have p10:0 ≤ (x7_1:Int):=of_decide_eq_true (by assumption)
            have q10:x7_1 < (a0.size:Int):=of_decide_eq_true (by assumption)
            have hx10:=bt_at a0 x7_1
            replace p10:=eq_true p10
            replace q10:=eq_true q10
            have p12:0 ≤ (x7_1:Int):=of_decide_eq_true (by assumption)
            have q12:x7_1 < (a0.size:Int):=of_decide_eq_true (by assumption)
            have hx12:=bt_at a0 x7_1
            replace p12:=eq_true p12
            replace q12:=eq_true q12
            have p14:0 ≤ (x7_1:Int):=of_decide_eq_true (by assumption)
            have q14:x7_1 < (a0.size:Int):=of_decide_eq_true (by assumption)
            have hx14:=bt_at a0 x7_1
            replace p14:=eq_true p14
            replace q14:=eq_true q14
            go_wp2
            go_ret
            exact ⟨by rfl,by repeat (first | exact Drawn0.refl _ | apply Drawn0.step)⟩
           ·rw [if_neg c15] at H
            have c15b0:decide ((bt a0 x7_1) < 48) = false:=decide_eq_false c15
            clear c15
            by_cases c17:(bt a0 x7_1) > 57
            ·rw [if_pos c17] at H
             have c17b0:decide (57 < (bt a0 x7_1)) = true:=decide_eq_true c17
             clear c17
             obtain rfl:=Option.some.inj H
             have p5:0 ≤ (x7_1:Int):=of_decide_eq_true (by assumption)
             have q5:x7_1 < (a0.size:Int):=of_decide_eq_true (by assumption)
             have hx5:=bt_at a0 x7_1
             replace p5:=eq_true p5
             replace q5:=eq_true q5
             have p7:0 ≤ (x7_1:Int):=of_decide_eq_true (by assumption)
             have q7:x7_1 < (a0.size:Int):=of_decide_eq_true (by assumption)
             have hx7:=bt_at a0 x7_1
             replace p7:=eq_true p7
             replace q7:=eq_true q7
             have p10:0 ≤ (x7_1:Int):=of_decide_eq_true (by assumption)
             have q10:x7_1 < (a0.size:Int):=of_decide_eq_true (by assumption)
             have hx10:=bt_at a0 x7_1
             replace p10:=eq_true p10
             replace q10:=eq_true q10
             have p12:0 ≤ (x7_1:Int):=of_decide_eq_true (by assumption)
             have q12:x7_1 < (a0.size:Int):=of_decide_eq_true (by assumption)
             have hx12:=bt_at a0 x7_1
             replace p12:=eq_true p12
             replace q12:=eq_true q12
             have p14:0 ≤ (x7_1:Int):=of_decide_eq_true (by assumption)
             have q14:x7_1 < (a0.size:Int):=of_decide_eq_true (by assumption)
             have hx14:=bt_at a0 x7_1
             replace p14:=eq_true p14
             replace q14:=eq_true q14
             have p16:0 ≤ (x7_1:Int):=of_decide_eq_true (by assumption)
             have q16:x7_1 < (a0.size:Int):=of_decide_eq_true (by assumption)
             have hx16:=bt_at a0 x7_1
             replace p16:=eq_true p16
             replace q16:=eq_true q16
             go_wp2
             go_ret
             exact ⟨by rfl,by repeat (first | exact Drawn0.refl _ | apply Drawn0.step)⟩
            ·rw [if_neg c17] at H
             have c17b0:decide (57 < (bt a0 x7_1)) = false:=decide_eq_false c17
             clear c17
             have H':=Aside0.mk H
             clear H
             have p5:0 ≤ (x7_1:Int):=of_decide_eq_true (by assumption)
             have q5:x7_1 < (a0.size:Int):=of_decide_eq_true (by assumption)
             have hx5:=bt_at a0 x7_1
             replace p5:=eq_true p5
             replace q5:=eq_true q5
             have p7:0 ≤ (x7_1:Int):=of_decide_eq_true (by assumption)
             have q7:x7_1 < (a0.size:Int):=of_decide_eq_true (by assumption)
             have hx7:=bt_at a0 x7_1
             replace p7:=eq_true p7
             replace q7:=eq_true q7
             have p10:0 ≤ (x7_1:Int):=of_decide_eq_true (by assumption)
             have q10:x7_1 < (a0.size:Int):=of_decide_eq_true (by assumption)
             have hx10:=bt_at a0 x7_1
             replace p10:=eq_true p10
             replace q10:=eq_true q10
             have p12:0 ≤ (x7_1:Int):=of_decide_eq_true (by assumption)
             have q12:x7_1 < (a0.size:Int):=of_decide_eq_true (by assumption)
             have hx12:=bt_at a0 x7_1
             replace p12:=eq_true p12
             replace q12:=eq_true q12
             have p14:0 ≤ (x7_1:Int):=of_decide_eq_true (by assumption)
             have q14:x7_1 < (a0.size:Int):=of_decide_eq_true (by assumption)
             have hx14:=bt_at a0 x7_1
             replace p14:=eq_true p14
             replace q14:=eq_true q14
             have p16:0 ≤ (x7_1:Int):=of_decide_eq_true (by assumption)
             have q16:x7_1 < (a0.size:Int):=of_decide_eq_true (by assumption)
             have hx16:=bt_at a0 x7_1
             replace p16:=eq_true p16
             replace q16:=eq_true q16
             go_wp2
             go_roundg k1
             case measure=>have:=HK1.out;omega
             case rel=>exact ⟨(wrap64 (x7_1 + 1)),(by rfl),H',⟨by have:=HK1.out;omega⟩,by repeat (first | exact Drawn0.refl _ | apply Drawn0.step)⟩
      ·rw [if_neg c6] at H
       have c6b0:decide (97 ≤ (bt a0 x7_1)) = false:=decide_eq_false c6
       clear c6
       by_cases c18:x7_1 = 0
       ·rw [if_pos c18] at H
        have c18b0:(x7_1 == 0) = true:=beq_iff_eq.mpr c18
        have c18b1:(x7_1 != 0) = false:=bne_eq_false_iff_eq.mpr c18
        clear c18
        obtain rfl:=Option.some.inj H
        have p5:0 ≤ (x7_1:Int):=of_decide_eq_true (by assumption)
        have q5:x7_1 < (a0.size:Int):=of_decide_eq_true (by assumption)
        have hx5:=bt_at a0 x7_1
        replace p5:=eq_true p5
        replace q5:=eq_true q5
        go_wp2
        go_ret
        exact ⟨by rfl,by repeat (first | exact Drawn0.refl _ | apply Drawn0.step)⟩
       ·rw [if_neg c18] at H
        have c18b0:(x7_1 == 0) = false:=beq_eq_false_iff_ne.mpr c18
        have c18b1:(x7_1 != 0) = true:=bne_iff_ne.mpr c18
        by_cases c20:(bt a0 x7_1) = 46
        ·rw [if_pos c20] at H
         have c20b0:((bt a0 x7_1) == 46) = true:=beq_iff_eq.mpr c20
         have c20b1:((bt a0 x7_1) != 46) = false:=bne_eq_false_iff_eq.mpr c20
         clear c20
         have H':=Aside0.mk H
         clear H
         have p5:0 ≤ (x7_1:Int):=of_decide_eq_true (by assumption)
         have q5:x7_1 < (a0.size:Int):=of_decide_eq_true (by assumption)
         have hx5:=bt_at a0 x7_1
         replace p5:=eq_true p5
         replace q5:=eq_true q5
         have p19:0 ≤ (x7_1:Int):=of_decide_eq_true (by assumption)
         have q19:x7_1 < (a0.size:Int):=of_decide_eq_true (by assumption)
         have hx19:=bt_at a0 x7_1
         replace p19:=eq_true p19
         replace q19:=eq_true q19
         go_wp2
         go_roundg k1
         case measure=>have:=HK1.out;omega
         case rel=>exact ⟨(wrap64 (x7_1 + 1)),(by rfl),H',⟨by have:=HK1.out;omega⟩,by repeat (first | exact Drawn0.refl _ | apply Drawn0.step)⟩
        ·rw [if_neg c20] at H
         have c20b0:((bt a0 x7_1) == 46) = false:=beq_eq_false_iff_ne.mpr c20
         have c20b1:((bt a0 x7_1) != 46) = true:=bne_iff_ne.mpr c20
         by_cases c22:(bt a0 x7_1) = 45
         ·rw [if_pos c22] at H
          have c22b0:((bt a0 x7_1) == 45) = true:=beq_iff_eq.mpr c22
          have c22b1:((bt a0 x7_1) != 45) = false:=bne_eq_false_iff_eq.mpr c22
          clear c22
          have H':=Aside0.mk H
          clear H
          have p5:0 ≤ (x7_1:Int):=of_decide_eq_true (by assumption)
          have q5:x7_1 < (a0.size:Int):=of_decide_eq_true (by assumption)
          have hx5:=bt_at a0 x7_1
          replace p5:=eq_true p5
          replace q5:=eq_true q5
          have p19:0 ≤ (x7_1:Int):=of_decide_eq_true (by assumption)
          have q19:x7_1 < (a0.size:Int):=of_decide_eq_true (by assumption)
          have hx19:=bt_at a0 x7_1
          replace p19:=eq_true p19
          replace q19:=eq_true q19
          have p21:0 ≤ (x7_1:Int):=of_decide_eq_true (by assumption)
          have q21:x7_1 < (a0.size:Int):=of_decide_eq_true (by assumption)
          have hx21:=bt_at a0 x7_1
          replace p21:=eq_true p21
          replace q21:=eq_true q21
          go_wp2
          go_roundg k1
          case measure=>have:=HK1.out;omega
          case rel=>exact ⟨(wrap64 (x7_1 + 1)),(by rfl),H',⟨by have:=HK1.out;omega⟩,by repeat (first | exact Drawn0.refl _ | apply Drawn0.step)⟩
         ·rw [if_neg c22] at H
          have c22b0:((bt a0 x7_1) == 45) = false:=beq_eq_false_iff_ne.mpr c22
          have c22b1:((bt a0 x7_1) != 45) = true:=bne_iff_ne.mpr c22
          by_cases c24:(bt a0 x7_1) < 48
          ·rw [if_pos c24] at H
           have c24b0:decide ((bt a0 x7_1) < 48) = true:=decide_eq_true c24
           clear c24
           obtain rfl:=Option.some.inj H
           have p5:0 ≤ (x7_1:Int):=of_decide_eq_true (by assumption)
           have q5:x7_1 < (a0.size:Int):=of_decide_eq_true (by assumption)
           have hx5:=bt_at a0 x7_1
           replace p5:=eq_true p5
           replace q5:=eq_true q5
           have p19:0 ≤ (x7_1:Int):=of_decide_eq_true (by assumption)
           have q19:x7_1 < (a0.size:Int):=of_decide_eq_true (by assumption)
           have hx19:=bt_at a0 x7_1
           replace p19:=eq_true p19
           replace q19:=eq_true q19
           have p21:0 ≤ (x7_1:Int):=of_decide_eq_true (by assumption)
           have q21:x7_1 < (a0.size:Int):=of_decide_eq_true (by assumption)
           have hx21:=bt_at a0 x7_1
           replace p21:=eq_true p21
           replace q21:=eq_true q21
           have p23:0 ≤ (x7_1:Int):=of_decide_eq_true (by assumption)
           have q23:x7_1 < (a0.size:Int):=of_decide_eq_true (by assumption)
           have hx23:=bt_at a0 x7_1
           replace p23:=eq_true p23
           replace q23:=eq_true q23
           go_wp2
           go_ret
           exact ⟨by rfl,by repeat (first | exact Drawn0.refl _ | apply Drawn0.step)⟩
          ·rw [if_neg c24] at H
           have c24b0:decide ((bt a0 x7_1) < 48) = false:=decide_eq_false c24
           clear c24
           by_cases c26:(bt a0 x7_1) > 57
           ·rw [if_pos c26] at H
            have c26b0:decide (57 < (bt a0 x7_1)) = true:=decide_eq_true c26
            clear c26
            obtain rfl:=Option.some.inj H
            have p5:0 ≤ (x7_1:Int):=of_decide_eq_true (by assumption)
            have q5:x7_1 < (a0.size:Int):=of_decide_eq_true (by assumption)
            have hx5:=bt_at a0 x7_1
            replace p5:=eq_true p5
            replace q5:=eq_true q5
            have p19:0 ≤ (x7_1:Int):=of_decide_eq_true (by assumption)
            have q19:x7_1 < (a0.size:Int):=of_decide_eq_true (by assumption)
            have hx19:=bt_at a0 x7_1
            replace p19:=eq_true p19
            replace q19:=eq_true q19
            have p21:0 ≤ (x7_1:Int):=of_decide_eq_true (by assumption)
            have q21:x7_1 < (a0.size:Int):=of_decide_eq_true (by assumption)
            have hx21:=bt_at a0 x7_1
            replace p21:=eq_true p21
            replace q21:=eq_true q21
            have p23:0 ≤ (x7_1:Int):=of_decide_eq_true (by assumption)
            have q23:x7_1 < (a0.size:Int):=of_decide_eq_true (by assumption)
            have hx23:=bt_at a0 x7_1
            replace p23:=eq_true p23
            replace q23:=eq_true q23
            have p25:0 ≤ (x7_1:Int):=of_decide_eq_true (by assumption)
            have q25:x7_1 < (a0.size:Int):=of_decide_eq_true (by assumption)
            have hx25:=bt_at a0 x7_1
            replace p25:=eq_true p25
            replace q25:=eq_true q25
            go_wp2
            go_ret
            exact ⟨by rfl,by repeat (first | exact Drawn0.refl _ | apply Drawn0.step)⟩
           ·rw [if_neg c26] at H
            have c26b0:decide (57 < (bt a0 x7_1)) = false:=decide_eq_false c26
            clear c26
            have H':=Aside0.mk H
            clear H
            have p5:0 ≤ (x7_1:Int):=of_decide_eq_true (by assumption)
            have q5:x7_1 < (a0.size:Int):=of_decide_eq_true (by assumption)
            have hx5:=bt_at a0 x7_1
            replace p5:=eq_true p5
            replace q5:=eq_true q5
            have p19:0 ≤ (x7_1:Int):=of_decide_eq_true (by assumption)
            have q19:x7_1 < (a0.size:Int):=of_decide_eq_true (by assumption)
            have hx19:=bt_at a0 x7_1
            replace p19:=eq_true p19
            replace q19:=eq_true q19
            have p21:0 ≤ (x7_1:Int):=of_decide_eq_true (by assumption)
            have q21:x7_1 < (a0.size:Int):=of_decide_eq_true (by assumption)
            have hx21:=bt_at a0 x7_1
            replace p21:=eq_true p21
            replace q21:=eq_true q21
            have p23:0 ≤ (x7_1:Int):=of_decide_eq_true (by assumption)
            have q23:x7_1 < (a0.size:Int):=of_decide_eq_true (by assumption)
            have hx23:=bt_at a0 x7_1
            replace p23:=eq_true p23
            replace q23:=eq_true q23
            have p25:0 ≤ (x7_1:Int):=of_decide_eq_true (by assumption)
            have q25:x7_1 < (a0.size:Int):=of_decide_eq_true (by assumption)
            have hx25:=bt_at a0 x7_1
            replace p25:=eq_true p25
            replace q25:=eq_true q25
            go_wp2
            go_roundg k1
            case measure=>have:=HK1.out;omega
            case rel=>exact ⟨(wrap64 (x7_1 + 1)),(by rfl),H',⟨by have:=HK1.out;omega⟩,by repeat (first | exact Drawn0.refl _ | apply Drawn0.step)⟩
     ·rw [if_neg c4] at H
      exact absurd H (by simp)
    ·rw [if_neg c3] at H
     exact absurd H (by simp)
   ·rw [if_neg c2] at H
    have c2b0:decide (x7_1 < (a0.size:Int)) = false:=decide_eq_false c2
    clear c2
    by_cases c27:(a0.size:Int) ≥ 1
    ·rw [if_pos c27] at H
     have c27b0:decide (1 ≤ (a0.size:Int)) = true:=decide_eq_true c27
     have c27b1:decide (1 ≤ a0.size) = true:=decide_eq_true (by omega)
     clear c27
     obtain rfl:=Option.some.inj H
     go_wp2
     go_ret
     exact ⟨by rfl,by repeat (first | exact Drawn0.refl _ | apply Drawn0.step)⟩
    ·rw [if_neg c27] at H
     have c27b0:decide (1 ≤ (a0.size:Int)) = false:=decide_eq_false c27
     have c27b1:decide (1 ≤ a0.size) = false:=decide_eq_false (by omega)
     clear c27
     obtain rfl:=Option.some.inj H
     go_wp2
     go_ret
     exact ⟨by rfl,by repeat (first | exact Drawn0.refl _ | apply Drawn0.step)⟩
end Go.Proofs.Ytlcodfjlbhjkbaa.PDelta
end

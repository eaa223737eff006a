/- Parts of the proof of Track: nothing is claimed here by itself. -/
import Derived.Test.YtlcodfjlbhjkbaaKTrack6
set_option linter.unusedVariables false
set_option linter.unusedSimpArgs false
section
namespace Go.Proofs.Ytlcodfjlbhjkbaa.PDelta
open Go.RowKit Go.Proofs.YtlcodfjlbhjkbaaW.PrintWords Go.Proofs.YtlcodfjlbhjkbaaW.PrintLast Go.Proofs.YtlcodfjlbhjkbaaW.PrintMore
attribute [local go_sem] max2_int min2_int max_two min_two max_three min_three max_four min_four
attribute [local go_sem high] Go.Proofs.Ytlcodfjlbhjkbaa.Ord.leq_str Go.Proofs.Ytlcodfjlbhjkbaa.Ord.gtr_str Go.Proofs.Ytlcodfjlbhjkbaa.Ord.geq_str
noncomputable section
mutual
def track_settle.j0 : Nat → List (S26) → Int → Int → ByteArray → ByteArray → Bool → Option ((List (S95)) × Int)
 | 0,_,_,_,_,_,_ => none
 | k + 1,x0,x1,x2,x3,x4,x35 => if x35 = true then (some (([] : List (S95)),2)) else (track_settle.l0 k x0 x1 x2 x3 x4 ([] : List (S95)) x0 (x0.length : Int) 0)
def track_settle.l0 : Nat → List (S26) → Int → Int → ByteArray → ByteArray → List (S95) → List (S26) → Int → Int → Option ((List (S95)) × Int)
 | 0,_,_,_,_,_,_,_,_,_ => none
 | k + 1,x0,x1,x2,x3,x4,x13,x36,x37,x38 => if x38 < x37 then (if 0 ≤ x38 then (if x38 < (x36.length : Int) then (if x38 ≥ x1 then (track_settle.j2 k x0 x1 x2 x3 x4 x13 x38 x36 x37 x38 (decide (x38 < x2)) ((rd_T26 x36 x38).f0) ((rd_T26 x36 x38).f1) ((rd_T26 x36 x38).f2) 0 1) else (track_settle.j2 k x0 x1 x2 x3 x4 x13 x38 x36 x37 x38 false ((rd_T26 x36 x38).f0) ((rd_T26 x36 x38).f1) ((rd_T26 x36 x38).f2) 0 1)) else (none)) else (none)) else ((delta_Tidy.f x13).bind fun bt244 => (some (bt244.1,bt244.2)))
def track_settle.j2 : Nat → List (S26) → Int → Int → ByteArray → ByteArray → List (S95) → Int → List (S26) → Int → Int → Bool → Int → Int → List (S91) → Int → Int → Option ((List (S95)) × Int)
 | 0,_,_,_,_,_,_,_,_,_,_,_,_,_,_,_,_ => none
 | k + 1,x0,x1,x2,x3,x4,x13,x14,x36,x37,x38,x51,x250000,x250001,x250002,x251000,x251001 => if x51 = true then ((attr_Get.f k x250002 x4).bind fun t251 => (if t251.toList = ([] : List UInt8) then (track_settle.j3 k x0 x1 x2 x3 x4 x13 (t251.toList != ([] : List UInt8)) x36 x37 x38 false x250000 x250001 x250002 x251000 x251001) else (track_settle.j3 k x0 x1 x2 x3 x4 x13 (t251.toList != ([] : List UInt8)) x36 x37 x38 (decide (x14 < (wrap64 ((x0.length : Int) - 1)))) x250000 x250001 x250002 x251000 x251001))) else (if x13.length < 2199023255552 then (track_settle.l0 k x0 x1 x2 x3 x4 (x13 ++ [(⟨x251000,x251001,([] : List (S91)),([] : List (S26))⟩ : S95)]) x36 x37 (wrap64 (x38 + 1))) else (none))
def track_settle.j3 : Nat → List (S26) → Int → Int → ByteArray → ByteArray → List (S95) → Bool → List (S26) → Int → Int → Bool → Int → Int → List (S91) → Int → Int → Option ((List (S95)) × Int)
 | 0,_,_,_,_,_,_,_,_,_,_,_,_,_,_,_,_ => none
 | k + 1,x0,x1,x2,x3,x4,x13,x17,x36,x37,x38,x64,x250000,x250001,x250002,x251000,x251001 => if x64 = true then (if x13.length < 2199023255552 then (track_settle.l0 k x0 x1 x2 x3 x4 (x13 ++ [(⟨2,x251001,([] : List (S91)),([] : List (S26))⟩ : S95)]) x36 x37 (wrap64 (x38 + 1))) else (none)) else ((attr_Get.f k x250002 x3).bind fun t255 => (if t255.toList = ([] : List UInt8) then (track_settle.j4 k x0 x1 x2 x3 x4 x13 x17 x36 x37 x38 x251000 x251001 ([] : List (S91))) else (if ([] : List (S91)).length < 4398046511104 then (track_settle.j4 k x0 x1 x2 x3 x4 x13 x17 x36 x37 x38 x251000 x251001 (([] : List (S91)) ++ [(⟨x3,(⟨#[]⟩ : ByteArray)⟩ : S91)])) else (none))))
def track_settle.j4 : Nat → List (S26) → Int → Int → ByteArray → ByteArray → List (S95) → Bool → List (S26) → Int → Int → Int → Int → List (S91) → Option ((List (S95)) × Int)
 | 0,_,_,_,_,_,_,_,_,_,_,_,_,_ => none
 | k + 1,x0,x1,x2,x3,x4,x13,x17,x36,x37,x38,x251000,x251001,x251002 => if x17 = true then (if x251002.length < 4398046511104 then ((some (x251002 ++ [(⟨x4,(⟨#[]⟩ : ByteArray)⟩ : S91)] : List (S91))).bind fun y259 => (if (y259.length : Int) = 2 then (if x13.length < 2199023255552 then (track_settle.l0 k x0 x1 x2 x3 x4 (x13 ++ [(⟨x251000,x251001,(([(⟨(⟨#[97,100,100]⟩ : ByteArray),(⟨#[]⟩ : ByteArray)⟩ : S91),(⟨(⟨#[99,117,116]⟩ : ByteArray),(⟨#[]⟩ : ByteArray)⟩ : S91)] : List (S91))),([] : List (S26))⟩ : S95)]) x36 x37 (wrap64 (x38 + 1))) else (none)) else (if x13.length < 2199023255552 then (track_settle.l0 k x0 x1 x2 x3 x4 (x13 ++ [(⟨x251000,x251001,y259,([] : List (S26))⟩ : S95)]) x36 x37 (wrap64 (x38 + 1))) else (none)))) else (none)) else (if (x251002.length : Int) = 2 then (if x13.length < 2199023255552 then (track_settle.l0 k x0 x1 x2 x3 x4 (x13 ++ [(⟨x251000,x251001,(([(⟨(⟨#[97,100,100]⟩ : ByteArray),(⟨#[]⟩ : ByteArray)⟩ : S91),(⟨(⟨#[99,117,116]⟩ : ByteArray),(⟨#[]⟩ : ByteArray)⟩ : S91)] : List (S91))),([] : List (S26))⟩ : S95)]) x36 x37 (wrap64 (x38 + 1))) else (none)) else (if x13.length < 2199023255552 then (track_settle.l0 k x0 x1 x2 x3 x4 (x13 ++ [(⟨x251000,x251001,x251002,([] : List (S26))⟩ : S95)]) x36 x37 (wrap64 (x38 + 1))) else (none)))
end
def track_settle.f (k : Nat) (l0 : List (S26)) (a1 : Int) (a2 : Int) (a3 : ByteArray) (a4 : ByteArray) : Option ((List (S95)) × Int):=(flow_Check.f k l0 true).bind fun t243 => (if t243 = 0 then (if a1 < 0 then (track_settle.j0 k l0 a1 a2 a3 a4 true) else (if a2 < a1 then (track_settle.j0 k l0 a1 a2 a3 a4 true) else (track_settle.j0 k l0 a1 a2 a3 a4 (decide (a2 > (l0.length : Int)))))) else (some (([] : List (S95)),t243)))
set_option maxHeartbeats 8000000 in
set_option maxRecDepth 100000 in
theorem track_settle.calls (k : Nat) (A0 : Option Addr) (c0 : Nat) (l0 : List (S26)) (a1 : Int) (a2 : Int) (a3 : ByteArray) (a4 : ByteArray) (r1 : List (S95)) (r2 : Int) (w : World) (hr0 : Kd.C k26 w A0 l0.length l0) (hc0 : l0.length ≤ c0) (h : track_settle.f k l0 a1 a2 a3 a4 = some (r1,r2)) :
 Calls Try.prog 49 #[.slice A0 l0.length c0,.int .i64 a1,.int .i64 a2,.string a3,.string a4] w fun e w' => ∃ v0_ : Value,e = .returned (.tuple #[v0_,.int .i64 r2]) ∧ Kd.N k95 95 w' w.heap.size (fun k_ => (w.heap.size ≤ k_)) v0_ r1 ∧ Below w.heap.size w w':=by
 have hu26:=Try.underlying26
 have hu95:=Try.underlying95
 have hu91:=Try.underlying91
 have HR0:=Aside0.mk hr0
 have HC0:=Aside0.mk hc0
 clear hr0 hc0
 have HB:=Aside0.mk (Below.refl w.heap.size w)
 have H : ((flow_Check.f k l0 true).bind fun t243 => (if t243 = 0 then (if a1 < 0 then (track_settle.j0 k l0 a1 a2 a3 a4 true) else (if a2 < a1 then (track_settle.j0 k l0 a1 a2 a3 a4 true) else (track_settle.j0 k l0 a1 a2 a3 a4 (decide (a2 > (l0.length : Int)))))) else (some (([] : List (S95)),t243)))) = some (r1,r2):=h
 clear h
 replace H:=Option.bind_eq_some_iff.mp H
 obtain ⟨t243,A60,H⟩:=H
 replace H : (if t243 = 0 then (if a1 < 0 then (track_settle.j0 k l0 a1 a2 a3 a4 true) else (if a2 < a1 then (track_settle.j0 k l0 a1 a2 a3 a4 true) else (track_settle.j0 k l0 a1 a2 a3 a4 (decide (a2 > (l0.length : Int)))))) else (some (([] : List (S95)),t243))) = some (r1,r2):=H
 have A6:=Aside0.mk A60
 clear A60
 by_cases c7 : t243 = 0
 ·rw [if_pos c7] at H
  have c7b0 : (t243 == 0) = true:=beq_iff_eq.mpr c7
  have c7b1 : (t243 != 0) = false:=bne_eq_false_iff_eq.mpr c7
  clear c7
  have HC8:=Aside0.mk H
  clear H
  go_enter Try.func49,Try.ntmps49
  go_upto_region 4 with (((with_reducible refine gate_callee (f:=83) rfl ?_);refine goesL_ (some 19) rfl rfl Try.func83 (by kernel_rfl) rfl #[.slice A0 l0.length c0,.bool true] rfl (by (try simp only [List.map_toArray,List.map_cons,List.map_nil]);rfl) ?_;(with_reducible refine (flow_Check.calls k _ _ l0 true t243 _ ?side1 ?side2 A6.out).mono ?_);(case side1 => repeat (exact HR0.out));(case side2 => exact HC0.out);rintro e w9 ⟨rfl,hb⟩;refine ⟨_,rfl,?_⟩;replace HB:=Aside0.mk (below_step (by with_reducible exact HB.out) hb);(try clear hb);(try clear hb2);(try clear hk);(try clear hi)))
  (try simp only [Act.put,List.setIfInBounds_toArray,List.set_cons_zero,List.set_cons_succ])
  go_cut [35] (fun v35 wc => ∃ (kq : Nat) (x35_7 : Bool),v35 = .bool x35_7 ∧ Aside0 (track_settle.j0 kq l0 a1 a2 a3 a4 x35_7 = some (r1,r2)) ∧ Aside0 (kq ≤ k) ∧ Aside0 (Below w.heap.size w wc))
  case first =>
   have H:=HC8.out
   clear HC8
   by_cases c10 : a1 < 0
   ·rw [if_pos c10] at H
    have c10b0 : decide (a1 < 0) = true:=decide_eq_true c10
    clear c10
    (skip)
    have H':=Aside0.mk H
    clear H
    go_wp2
    go_meet
    case rel => exact ⟨_,(true),(by rfl),H',⟨by omega⟩,⟨HB.out⟩⟩
   ·rw [if_neg c10] at H
    have c10b0 : decide (a1 < 0) = false:=decide_eq_false c10
    clear c10
    (skip)
    by_cases c11 : a2 < a1
    ·rw [if_pos c11] at H
     have c11b0 : decide (a2 < a1) = true:=decide_eq_true c11
     clear c11
     have H':=Aside0.mk H
     clear H
     go_wp2
     go_meet
     case rel => exact ⟨_,(true),(by rfl),H',⟨by omega⟩,⟨HB.out⟩⟩
    ·rw [if_neg c11] at H
     have c11b0 : decide (a2 < a1) = false:=decide_eq_false c11
     clear c11
     have H':=Aside0.mk H
     clear H
     go_wp2
     go_meet
     case rel => exact ⟨_,(decide (a2 > (l0.length : Int))),(by rfl),H',⟨by omega⟩,⟨HB.out⟩⟩
  case rest =>
   clear HC8
   try clear c7b0
   try clear c7b1
   obtain ⟨kq,x35_7,rfl,HA,HJ7,HB⟩:=hcut
   cases kq with
   | zero => exact absurd HA.out (by simp [track_settle.j0])
   | succ kj7 =>
    have H:=HA.out
    clear HA
    simp only [track_settle.j0] at H
    by_cases c12 : x35_7 = true
    ·subst c12
     have H1 : (some (([] : List (S95)),2)) = some (r1,r2):=by rw [if_pos rfl] at H;exact H
     clear H
     have H:=H1
     clear H1
     simp only [Option.some.injEq,Prod.mk.injEq] at H
     obtain ⟨rfl,rfl⟩:=H
     go_wp2
     go_ret2
     exact ⟨_,by rfl,by exact Kd.N_nil _ _ _ _ _,HB.out⟩
    ·replace c12:=Bool.eq_false_iff.mpr c12
     subst c12
     have H1 : (track_settle.l0 kj7 l0 a1 a2 a3 a4 ([] : List (S95)) l0 (l0.length : Int) 0) = some (r1,r2):=by rw [if_neg (show ¬ (false = true) by decide)] at H;exact H
     clear H
     have H:=H1
     clear H1
     have H':=Aside0.mk H
     clear H
     go_wp2
     go_loopg [13,38] kj7 (fun kq v13 v38 w' => ∃ (x13_2 : List (S95)) (x38_2 : Int),v38 = .int .i64 x38_2 ∧ Aside0 (track_settle.l0 kq l0 a1 a2 a3 a4 x13_2 l0 (l0.length : Int) x38_2 = some (r1,r2)) ∧ Aside0 (kq ≤ kj7) ∧ Aside0 (Kd.N k95 95 w' w.heap.size (fun k_ => (w.heap.size ≤ k_)) v13 x13_2) ∧ Aside0 (Below w.heap.size w w'))
     case atStart => exact ⟨(([] : List (S95))),(0),(by rfl),H',⟨Nat.le_refl _⟩,⟨by exact Kd.N_nil _ _ _ _ _⟩,⟨HB.out⟩⟩
     case round =>
      clear H'
      obtain ⟨x13_2,x38_2,rfl,HA,HK2,HO_13,HB⟩:=hrel
      cases gk with
      | zero => exact absurd HA.out (by simp [track_settle.l0])
      | succ k2 =>
       have H:=HA.out
       clear HA
       simp only [track_settle.l0] at H
       by_cases c13 : x38_2 < (l0.length : Int)
       ·rw [if_pos c13] at H
        have c13b0 : decide (x38_2 < (l0.length : Int)) = true:=decide_eq_true c13
        clear c13
        by_cases c14 : 0 ≤ x38_2
        ·rw [if_pos c14] at H
         have c14b0 : decide (0 ≤ x38_2) = true:=decide_eq_true c14
         clear c14
         by_cases c15 : x38_2 < (l0.length : Int)
         ·rw [if_pos c15] at H
          have c15b0 : decide (x38_2 < (l0.length : Int)) = true:=decide_eq_true c15
          clear c15
          have HC16:=Aside0.mk H
          clear H
          have p248 : 0 ≤ (x38_2 : Int):=of_decide_eq_true (by assumption)
          have q248 : x38_2 < (l0.length : Int):=of_decide_eq_true (by assumption)
          obtain ⟨ad248,A248_2,c248_2,e248,hx248_0,hx248_1,hx248_2,hl248_2,hi248_2⟩:=at_T26 HR0.out x38_2 p248 q248
          cases e248
          replace hx248_0:=(HB.out.cell (World.block_lt_of_cell? w _ hx248_0)).trans hx248_0
          replace hx248_1:=(HB.out.cell (World.block_lt_of_cell? w _ hx248_1)).trans hx248_1
          replace hx248_2:=(HB.out.cell (World.block_lt_of_cell? w _ hx248_2)).trans hx248_2
          have HR248_2:=Aside0.mk hi248_2
          have HC248_2:=Aside0.mk hl248_2
          clear hi248_2 hl248_2
          replace p248:=eq_true p248
          replace q248:=eq_true q248
          go_upto_region 11 with (first | ((with_reducible refine gate_dst (N:=15) rfl ?_);(try (refine gate_guard (by rfl) ?_;dsimp only));refine box_event ?hg (N:=15) ?hd (cs:=#[.int .i64 0,.int .i64 0,.slice none 0 0]) (t:=26) ?hr ?_;(case hd => rfl);(case hg => rfl);(case hr => (go_simp;done));intro gb249 hg w17 hbox hb;have n0_:=Aside0.mk (Kd.N_below (Kd.N_elderB HO_13.out gb249 (Nat.le_of_eq hg.symm)) hb);have n1_:=Aside0.mk (below_step (by with_reducible exact HB.out) hb);have n2_:=Aside0.mk hbox;have n3_:=Aside0.mk ((by rw [hg];exact (below_size (by with_reducible exact HB.out)) : w.heap.size ≤ gb249));have n4_:=Aside0.mk ((by rw [hg];exact (below_size (by with_reducible exact HB.out)) : w.heap.size ≤ gb249));clear HO_13;clear HB;have HO_13:=n0_;have HB:=n1_;have BK249:=n2_;have GW249:=n3_;have GE249:=n4_;clear n0_ n1_ n2_ n3_ n4_;clear hb hbox hg;have hcz18_0 : w17.cell? ⟨gb249,0,none⟩ = some (.int .i64 0):=(blk_cell BK249.out 0).trans rfl;have hcz18_1 : w17.cell? ⟨gb249,1,none⟩ = some (.int .i64 0):=(blk_cell BK249.out 1).trans rfl;have hcz18_2 : w17.cell? ⟨gb249,2,none⟩ = some (.slice none 0 0):=(blk_cell BK249.out 2).trans rfl;have hfz18_0:=blk_frozen BK249.out 0;have hfz18_1:=blk_frozen BK249.out 1;have hfz18_2:=blk_frozen BK249.out 2) | ((with_reducible refine gate_dst (N:=16) rfl ?_);(try (refine gate_guard (by rfl) ?_;dsimp only));refine box_event ?hg (N:=16) ?hd (cs:=#[.int .i64 0,.int .i64 0,.slice none 0 0,.slice none 0 0]) (t:=95) ?hr ?_;(case hd => rfl);(case hg => rfl);(case hr => (go_simp;done));intro gb250 hg w19 hbox hb;have n0_:=Aside0.mk (Kd.N_below (Kd.N_elderB (by exact (Kd.N_mono (Kd.N_far (p:=⟨gb249,2,none⟩) (Kd.N_far (p:=⟨gb249,1,none⟩) (Kd.N_far (p:=⟨gb249,0,none⟩) (Kd.N_mono HO_13.out (fun k_ hk => (⟨hk,hk.2⟩ : _ ∧ k_ ≠ gb249))) (fun _ hk => hk.2) (.int .i64 ((rd_T26 l0 x38_2).f0))) (fun _ hk => hk.2) (.int .i64 ((rd_T26 l0 x38_2).f1))) (fun _ hk => hk.2) (.slice A248_2 ((rd_T26 l0 x38_2).f2).length c248_2)) (fun _ h_ => h_.1))) gb250 (Nat.le_of_eq hg.symm)) hb);have n1_:=Aside0.mk (blk_below (g:=gb249) (o:=.cells #[.int .i64 ((rd_T26 l0 x38_2).f0),.int .i64 ((rd_T26 l0 x38_2).f1),.slice A248_2 ((rd_T26 l0 x38_2).f2).length c248_2] 26 (0,0)) (by (with_reducible repeat (first | refine blk_drewN ?_ _ | refine blk_drew ?_ | refine blk_alloc ?_ _));refine blk_put (cs:=#[.int .i64 ((rd_T26 l0 x38_2).f0),.int .i64 ((rd_T26 l0 x38_2).f1),.slice none 0 0]) ?_ 2 _ rfl;(with_reducible repeat (first | refine blk_drewN ?_ _ | refine blk_drew ?_ | refine blk_alloc ?_ _));refine blk_put (cs:=#[.int .i64 ((rd_T26 l0 x38_2).f0),.int .i64 0,.slice none 0 0]) ?_ 1 _ rfl;(with_reducible repeat (first | refine blk_drewN ?_ _ | refine blk_drew ?_ | refine blk_alloc ?_ _));refine blk_put (cs:=#[.int .i64 0,.int .i64 0,.slice none 0 0]) ?_ 0 _ rfl;exact BK249.out) hb);have n2_:=Aside0.mk (below_step (by repeat ((with_reducible first | exact HB.out | refine below_set ?_ GE249.out))) hb);have n3_:=Aside0.mk hbox;have n4_:=Aside0.mk ((by rw [hg];exact (below_size (by repeat ((with_reducible first | exact HB.out | refine below_set ?_ GE249.out)))) : w.heap.size ≤ gb250));have n5_:=Aside0.mk ((by rw [hg];exact (below_size (by repeat ((with_reducible first | exact HB.out | refine below_set ?_ GE249.out)))) : w.heap.size ≤ gb250));have n6_:=Aside0.mk ((by rw [hg];exact Nat.ne_of_lt (blk_lt (g:=gb249) (o:=.cells #[.int .i64 ((rd_T26 l0 x38_2).f0),.int .i64 ((rd_T26 l0 x38_2).f1),.slice A248_2 ((rd_T26 l0 x38_2).f2).length c248_2] 26 (0,0)) (by (with_reducible repeat (first | refine blk_drewN ?_ _ | refine blk_drew ?_ | refine blk_alloc ?_ _));refine blk_put (cs:=#[.int .i64 ((rd_T26 l0 x38_2).f0),.int .i64 ((rd_T26 l0 x38_2).f1),.slice none 0 0]) ?_ 2 _ rfl;(with_reducible repeat (first | refine blk_drewN ?_ _ | refine blk_drew ?_ | refine blk_alloc ?_ _));refine blk_put (cs:=#[.int .i64 ((rd_T26 l0 x38_2).f0),.int .i64 0,.slice none 0 0]) ?_ 1 _ rfl;(with_reducible repeat (first | refine blk_drewN ?_ _ | refine blk_drew ?_ | refine blk_alloc ?_ _));refine blk_put (cs:=#[.int .i64 0,.int .i64 0,.slice none 0 0]) ?_ 0 _ rfl;exact BK249.out)) : gb249 ≠ gb250));have n7_:=Aside0.mk ((by rw [hg];exact Nat.ne_of_gt (blk_lt (g:=gb249) (o:=.cells #[.int .i64 ((rd_T26 l0 x38_2).f0),.int .i64 ((rd_T26 l0 x38_2).f1),.slice A248_2 ((rd_T26 l0 x38_2).f2).length c248_2] 26 (0,0)) (by (with_reducible repeat (first | refine blk_drewN ?_ _ | refine blk_drew ?_ | refine blk_alloc ?_ _));refine blk_put (cs:=#[.int .i64 ((rd_T26 l0 x38_2).f0),.int .i64 ((rd_T26 l0 x38_2).f1),.slice none 0 0]) ?_ 2 _ rfl;(with_reducible repeat (first | refine blk_drewN ?_ _ | refine blk_drew ?_ | refine blk_alloc ?_ _));refine blk_put (cs:=#[.int .i64 ((rd_T26 l0 x38_2).f0),.int .i64 0,.slice none 0 0]) ?_ 1 _ rfl;(with_reducible repeat (first | refine blk_drewN ?_ _ | refine blk_drew ?_ | refine blk_alloc ?_ _));refine blk_put (cs:=#[.int .i64 0,.int .i64 0,.slice none 0 0]) ?_ 0 _ rfl;exact BK249.out)) : gb250 ≠ gb249));clear HO_13;clear BK249;clear HB;have HO_13:=n0_;have BK249:=n1_;have HB:=n2_;have BK250:=n3_;have GW250:=n4_;have GE250:=n5_;have NB249_250:=n6_;have NB250_249:=n7_;clear n0_ n1_ n2_ n3_ n4_ n5_ n6_ n7_;clear hb hbox hg;have hnb20:=NB250_249.out;have hnc20:=NB249_250.out;have hcz21_0 : w19.cell? ⟨gb250,0,none⟩ = some (.int .i64 0):=(blk_cell BK250.out 0).trans rfl;have hcz21_1 : w19.cell? ⟨gb250,1,none⟩ = some (.int .i64 0):=(blk_cell BK250.out 1).trans rfl;have hcz21_2 : w19.cell? ⟨gb250,2,none⟩ = some (.slice none 0 0):=(blk_cell BK250.out 2).trans rfl;have hcz21_3 : w19.cell? ⟨gb250,3,none⟩ = some (.slice none 0 0):=(blk_cell BK250.out 3).trans rfl;have hfz21_0:=blk_frozen BK250.out 0;have hfz21_1:=blk_frozen BK250.out 1;have hfz21_2:=blk_frozen BK250.out 2;have hfz21_3:=blk_frozen BK250.out 3))
          (try simp only [Act.put,List.setIfInBounds_toArray,List.set_cons_zero,List.set_cons_succ])
          go_cut [51] (fun v51 wc => ∃ (kq : Nat) (x51_15 : Bool),v51 = .bool x51_15 ∧ Aside0 (track_settle.j2 kq l0 a1 a2 a3 a4 x13_2 x38_2 l0 (l0.length : Int) x38_2 x51_15 ((rd_T26 l0 x38_2).f0) ((rd_T26 l0 x38_2).f1) ((rd_T26 l0 x38_2).f2) 0 1 = some (r1,r2)) ∧ Aside0 (kq ≤ k2) ∧ Aside0 (Kd.N k95 95 wc w.heap.size (fun k_ => (w.heap.size ≤ k_) ∧ k_ ≠ gb249 ∧ k_ ≠ gb250) u13 x13_2) ∧ Aside0 (wc.heap[gb249]? = some (.cells #[.int .i64 ((rd_T26 l0 x38_2).f0),.int .i64 ((rd_T26 l0 x38_2).f1),(.slice A248_2 ((rd_T26 l0 x38_2).f2).length c248_2)] 26 (0,0))) ∧ Aside0 (wc.heap[gb250]? = some (.cells #[.int .i64 0,.int .i64 1,(.slice none 0 0),(.slice none 0 0)] 95 (0,0))) ∧ Aside0 (Below w.heap.size w wc))
          case first =>
           have H:=HC16.out
           clear HC16
           by_cases c22 : x38_2 ≥ a1
           ·rw [if_pos c22] at H
            have c22b0 : decide (a1 ≤ x38_2) = true:=decide_eq_true c22
            clear c22
            (skip)
            have H':=Aside0.mk H
            clear H
            go_wp2
            go_meet
            case rel => exact ⟨_,(decide (x38_2 < a2)),(by rfl),H',⟨by have:=HJ7.out;have:=HK2.out;omega⟩,⟨by exact Kd.N_mono (Kd.N_far (p:=⟨gb250,3,none⟩) (Kd.N_far (p:=⟨gb250,2,none⟩) (Kd.N_far (p:=⟨gb250,1,none⟩) (Kd.N_far (p:=⟨gb250,0,none⟩) (Kd.N_mono HO_13.out (fun k_ hk => (⟨hk,hk.2⟩ : _ ∧ k_ ≠ gb250))) (fun _ hk => hk.2) (.int .i64 0)) (fun _ hk => hk.2) (.int .i64 1)) (fun _ hk => hk.2) (.slice none 0 0)) (fun _ hk => hk.2) (.slice none 0 0)) (fun _ hk => ⟨hk.1.1.1,⟨hk.1.1.2,hk.1.2⟩⟩)⟩,⟨by (with_reducible repeat (first | refine blk_drewN ?_ _ | refine blk_drew ?_ | refine blk_alloc ?_ _));refine blk_far ?_ NB249_250.out _;(with_reducible repeat (first | refine blk_drewN ?_ _ | refine blk_drew ?_ | refine blk_alloc ?_ _));refine blk_far ?_ NB249_250.out _;(with_reducible repeat (first | refine blk_drewN ?_ _ | refine blk_drew ?_ | refine blk_alloc ?_ _));refine blk_far ?_ NB249_250.out _;(with_reducible repeat (first | refine blk_drewN ?_ _ | refine blk_drew ?_ | refine blk_alloc ?_ _));refine blk_far ?_ NB249_250.out _;exact BK249.out⟩,⟨by (with_reducible repeat (first | refine blk_drewN ?_ _ | refine blk_drew ?_ | refine blk_alloc ?_ _));refine blk_put (cs:=#[.int .i64 0,.int .i64 1,.slice none 0 0,.slice none 0 0]) ?_ 3 _ rfl;(with_reducible repeat (first | refine blk_drewN ?_ _ | refine blk_drew ?_ | refine blk_alloc ?_ _));refine blk_put (cs:=#[.int .i64 0,.int .i64 1,.slice none 0 0,.slice none 0 0]) ?_ 2 _ rfl;(with_reducible repeat (first | refine blk_drewN ?_ _ | refine blk_drew ?_ | refine blk_alloc ?_ _));refine blk_put (cs:=#[.int .i64 0,.int .i64 0,.slice none 0 0,.slice none 0 0]) ?_ 1 _ rfl;(with_reducible repeat (first | refine blk_drewN ?_ _ | refine blk_drew ?_ | refine blk_alloc ?_ _));refine blk_put (cs:=#[.int .i64 0,.int .i64 0,.slice none 0 0,.slice none 0 0]) ?_ 0 _ rfl;exact BK250.out⟩,⟨by repeat ((with_reducible first | exact HB.out | refine below_set ?_ GE250.out))⟩⟩
           ·rw [if_neg c22] at H
            have c22b0 : decide (a1 ≤ x38_2) = false:=decide_eq_false c22
            clear c22
            (skip)
            have H':=Aside0.mk H
            clear H
            go_wp2
            go_meet
            case rel => exact ⟨_,(false),(by rfl),H',⟨by have:=HJ7.out;have:=HK2.out;omega⟩,⟨by exact Kd.N_mono (Kd.N_far (p:=⟨gb250,3,none⟩) (Kd.N_far (p:=⟨gb250,2,none⟩) (Kd.N_far (p:=⟨gb250,1,none⟩) (Kd.N_far (p:=⟨gb250,0,none⟩) (Kd.N_mono HO_13.out (fun k_ hk => (⟨hk,hk.2⟩ : _ ∧ k_ ≠ gb250))) (fun _ hk => hk.2) (.int .i64 0)) (fun _ hk => hk.2) (.int .i64 1)) (fun _ hk => hk.2) (.slice none 0 0)) (fun _ hk => hk.2) (.slice none 0 0)) (fun _ hk => ⟨hk.1.1.1,⟨hk.1.1.2,hk.1.2⟩⟩)⟩,⟨by (with_reducible repeat (first | refine blk_drewN ?_ _ | refine blk_drew ?_ | refine blk_alloc ?_ _));refine blk_far ?_ NB249_250.out _;(with_reducible repeat (first | refine blk_drewN ?_ _ | refine blk_drew ?_ | refine blk_alloc ?_ _));refine blk_far ?_ NB249_250.out _;(with_reducible repeat (first | refine blk_drewN ?_ _ | refine blk_drew ?_ | refine blk_alloc ?_ _));refine blk_far ?_ NB249_250.out _;(with_reducible repeat (first | refine blk_drewN ?_ _ | refine blk_drew ?_ | refine blk_alloc ?_ _));refine blk_far ?_ NB249_250.out _;exact BK249.out⟩,⟨by (with_reducible repeat (first | refine blk_drewN ?_ _ | refine blk_drew ?_ | refine blk_alloc ?_ _));refine blk_put (cs:=#[.int .i64 0,.int .i64 1,.slice none 0 0,.slice none 0 0]) ?_ 3 _ rfl;(with_reducible repeat (first | refine blk_drewN ?_ _ | refine blk_drew ?_ | refine blk_alloc ?_ _));refine blk_put (cs:=#[.int .i64 0,.int .i64 1,.slice none 0 0,.slice none 0 0]) ?_ 2 _ rfl;(with_reducible repeat (first | refine blk_drewN ?_ _ | refine blk_drew ?_ | refine blk_alloc ?_ _));refine blk_put (cs:=#[.int .i64 0,.int .i64 0,.slice none 0 0,.slice none 0 0]) ?_ 1 _ rfl;(with_reducible repeat (first | refine blk_drewN ?_ _ | refine blk_drew ?_ | refine blk_alloc ?_ _));refine blk_put (cs:=#[.int .i64 0,.int .i64 0,.slice none 0 0,.slice none 0 0]) ?_ 0 _ rfl;exact BK250.out⟩,⟨by repeat ((with_reducible first | exact HB.out | refine below_set ?_ GE250.out))⟩⟩
          case rest =>
           clear HC16
           try clear c13b0
           try clear c14b0
           try clear c15b0
           try clear hcz18_0
           try clear hcz18_1
           try clear hcz18_2
           try clear hcz21_0
           try clear hcz21_1
           try clear hcz21_2
           try clear hcz21_3
           try clear hfz18_0
           try clear hfz18_1
           try clear hfz18_2
           try clear hfz21_0
           try clear hfz21_1
           try clear hfz21_2
           try clear hfz21_3
           try clear hx248_0
           try clear hx248_1
           try clear hx248_2
           try clear p248
           try clear q248
           obtain ⟨kq,x51_15,rfl,HA,HJ15,HO_13,BK249,BK250,HB⟩:=hcut
           cases kq with
           | zero => exact absurd HA.out (by simp [track_settle.j2])
           | succ kj15 =>
            have H:=HA.out
            clear HA
            simp only [track_settle.j2] at H
            by_cases c23 : x51_15 = true
            ·subst c23
             have H1 : ((attr_Get.f kj15 ((rd_T26 l0 x38_2).f2) a4).bind fun t251 => (if t251.toList = ([] : List UInt8) then (track_settle.j3 kj15 l0 a1 a2 a3 a4 x13_2 (t251.toList != ([] : List UInt8)) l0 (l0.length : Int) x38_2 false ((rd_T26 l0 x38_2).f0) ((rd_T26 l0 x38_2).f1) ((rd_T26 l0 x38_2).f2) 0 1) else (track_settle.j3 kj15 l0 a1 a2 a3 a4 x13_2 (t251.toList != ([] : List UInt8)) l0 (l0.length : Int) x38_2 (decide (x38_2 < (wrap64 ((l0.length : Int) - 1)))) ((rd_T26 l0 x38_2).f0) ((rd_T26 l0 x38_2).f1) ((rd_T26 l0 x38_2).f2) 0 1))) = some (r1,r2):=by rw [if_pos rfl] at H;exact H
             clear H
             have H:=H1
             clear H1
             replace H:=Option.bind_eq_some_iff.mp H
             obtain ⟨t251,A240,H⟩:=H
             replace H : (if t251.toList = ([] : List UInt8) then (track_settle.j3 kj15 l0 a1 a2 a3 a4 x13_2 (t251.toList != ([] : List UInt8)) l0 (l0.length : Int) x38_2 false ((rd_T26 l0 x38_2).f0) ((rd_T26 l0 x38_2).f1) ((rd_T26 l0 x38_2).f2) 0 1) else (track_settle.j3 kj15 l0 a1 a2 a3 a4 x13_2 (t251.toList != ([] : List UInt8)) l0 (l0.length : Int) x38_2 (decide (x38_2 < (wrap64 ((l0.length : Int) - 1)))) ((rd_T26 l0 x38_2).f0) ((rd_T26 l0 x38_2).f1) ((rd_T26 l0 x38_2).f2) 0 1)) = some (r1,r2):=H
             have A24:=Aside0.mk A240
             clear A240
             have HC25:=Aside0.mk H
             clear H
             have hnb26:=NB249_250.out
             have hnc26:=NB250_249.out
             have hcz27_0 : wc.cell? ⟨gb249,0,none⟩ = some (.int .i64 ((rd_T26 l0 x38_2).f0)):=(blk_cell BK249.out 0).trans rfl
             have hcz27_1 : wc.cell? ⟨gb249,1,none⟩ = some (.int .i64 ((rd_T26 l0 x38_2).f1)):=(blk_cell BK249.out 1).trans rfl
             have hcz27_2 : wc.cell? ⟨gb249,2,none⟩ = some (.slice A248_2 ((rd_T26 l0 x38_2).f2).length c248_2):=(blk_cell BK249.out 2).trans rfl
             have hfz27_0:=blk_frozen BK249.out 0
             have hfz27_1:=blk_frozen BK249.out 1
             have hfz27_2:=blk_frozen BK249.out 2
             go_upto_region 13 with (((with_reducible refine gate_callee (f:=84) rfl ?_);refine goesL_ (some 55) rfl rfl Try.func84 (by kernel_rfl) rfl #[.slice A248_2 ((rd_T26 l0 x38_2).f2).length c248_2,.string a4] rfl (by (try simp only [List.map_toArray,List.map_cons,List.map_nil]);rfl) ?_;(with_reducible refine (attr_Get.calls kj15 _ _ ((rd_T26 l0 x38_2).f2) a4 t251 _ ?side1 ?side2 A24.out).mono ?_);(case side1 => repeat (exact (Kd.C_below HR248_2.out HB.out)));(case side2 => exact HC248_2.out);rintro e w28 ⟨rfl,hb⟩;refine ⟨_,rfl,?_⟩;have n0_:=Aside0.mk (Kd.N_below HO_13.out hb);have n1_:=Aside0.mk (blk_below BK249.out hb);have n2_:=Aside0.mk (blk_below BK250.out hb);have n3_:=Aside0.mk (below_step HB.out hb);clear HO_13;clear BK249;clear BK250;clear HB;have HO_13:=n0_;have BK249:=n1_;have BK250:=n2_;have HB:=n3_;clear n0_ n1_ n2_ n3_;(try clear hb);(try clear hb2);(try clear hk);(try clear hi)))
             (try simp only [Act.put,List.setIfInBounds_toArray,List.set_cons_zero,List.set_cons_succ])
             go_cut [17,64] (fun v17 v64 wc => ∃ (kq : Nat) (x64_24 : Bool),v17 = .bool (t251.toList != ([] : List UInt8)) ∧ v64 = .bool x64_24 ∧ Aside0 (track_settle.j3 kq l0 a1 a2 a3 a4 x13_2 (t251.toList != ([] : List UInt8)) l0 (l0.length : Int) x38_2 x64_24 ((rd_T26 l0 x38_2).f0) ((rd_T26 l0 x38_2).f1) ((rd_T26 l0 x38_2).f2) 0 1 = some (r1,r2)) ∧ Aside0 (kq ≤ kj15) ∧ Aside0 (Kd.N k95 95 wc w.heap.size (fun k_ => (w.heap.size ≤ k_) ∧ k_ ≠ gb249 ∧ k_ ≠ gb250) u13 x13_2) ∧ Aside0 (wc.heap[gb249]? = some (.cells #[.int .i64 ((rd_T26 l0 x38_2).f0),.int .i64 ((rd_T26 l0 x38_2).f1),(.slice A248_2 ((rd_T26 l0 x38_2).f2).length c248_2)] 26 (0,0))) ∧ Aside0 (wc.heap[gb250]? = some (.cells #[.int .i64 0,.int .i64 1,(.slice none 0 0),(.slice none 0 0)] 95 (0,0))) ∧ Aside0 (Below w.heap.size w wc))
             case first =>
              have H:=HC25.out
              clear HC25
              by_cases c29 : t251.toList = ([] : List UInt8)
              ·rw [if_pos c29] at H
               have c29b0 : (t251.toList == ([] : List UInt8)) = true:=beq_iff_eq.mpr c29
               have c29b9 : t251.toList.isEmpty = true:=by rw [c29];rfl
               have c29b1 : (t251.toList != ([] : List UInt8)) = false:=bne_eq_false_iff_eq.mpr c29
               clear c29
               (skip)
               have H':=Aside0.mk H
               clear H
               go_wp2
               go_meet
               case rel => exact ⟨_,(false),(by rw [c29b1]),(by rfl),H',⟨by have:=HJ7.out;have:=HK2.out;have:=HJ15.out;omega⟩,⟨by exact HO_13.out⟩,⟨by exact BK249.out⟩,⟨by exact BK250.out⟩,⟨HB.out⟩⟩
              ·rw [if_neg c29] at H
               have c29b0 : (t251.toList == ([] : List UInt8)) = false:=beq_eq_false_iff_ne.mpr c29
               have c29b9 : t251.toList.isEmpty = false:=by cases h_ : t251.toList with | nil => exact absurd h_ c29 | cons _ _ => rfl
               have c29b1 : (t251.toList != ([] : List UInt8)) = true:=bne_iff_ne.mpr c29
               (skip)
               have H':=Aside0.mk H
               clear H
               go_wp2
               go_meet
               case rel => exact ⟨_,(decide (x38_2 < (wrap64 ((l0.length : Int) - 1)))),(by rw [c29b1]),(by rfl),H',⟨by have:=HJ7.out;have:=HK2.out;have:=HJ15.out;omega⟩,⟨by exact HO_13.out⟩,⟨by exact BK249.out⟩,⟨by exact BK250.out⟩,⟨HB.out⟩⟩
             case rest =>
              clear HC25
              try clear hcz27_0
              try clear hcz27_1
              try clear hcz27_2
              try clear hfz27_0
              try clear hfz27_1
              try clear hfz27_2
              obtain ⟨kq,x64_24,rfl,rfl,HA,HJ24,HO_13,BK249,BK250,HB⟩:=hcut
              cases kq with
              | zero => exact absurd HA.out (by simp [track_settle.j3])
              | succ kj24 =>
               have H:=HA.out
               clear HA
               simp only [track_settle.j3] at H
               by_cases c30 : x64_24 = true
               ·subst c30
                have H1 : (if x13_2.length < 2199023255552 then (track_settle.l0 kj24 l0 a1 a2 a3 a4 (x13_2 ++ [(⟨2,1,([] : List (S91)),([] : List (S26))⟩ : S95)]) l0 (l0.length : Int) (wrap64 (x38_2 + 1))) else (none)) = some (r1,r2):=by rw [if_pos rfl] at H;exact H
                clear H
                have H:=H1
                clear H1
                by_cases c31 : x13_2.length < 2199023255552
                ·rw [if_pos c31] at H
                 have LMc31:=Aside0.mk c31
                 clear c31
                 obtain ⟨y252,hy252⟩ : ∃ y_ : List (S95),y_ = (x13_2 ++ [(⟨2,1,([] : List (S91)),([] : List (S26))⟩ : S95)]):=⟨_,rfl⟩
                 replace H : (track_settle.l0 kj24 l0 a1 a2 a3 a4 y252 l0 (l0.length : Int) (wrap64 (x38_2 + 1))) = some (r1,r2):=by (rw [hy252];with_reducible exact H)
                 have Ny252:=Aside0.mk hy252
                 clear hy252
                 have H':=Aside0.mk H
                 clear H
                 have hnb32:=NB250_249.out
                 have hnc32:=NB249_250.out
                 have hcz33_0 : wc.cell? ⟨gb250,0,none⟩ = some (.int .i64 0):=(blk_cell BK250.out 0).trans rfl
                 have hcz33_1 : wc.cell? ⟨gb250,1,none⟩ = some (.int .i64 1):=(blk_cell BK250.out 1).trans rfl
                 have hcz33_2 : wc.cell? ⟨gb250,2,none⟩ = some (.slice none 0 0):=(blk_cell BK250.out 2).trans rfl
                 have hcz33_3 : wc.cell? ⟨gb250,3,none⟩ = some (.slice none 0 0):=(blk_cell BK250.out 3).trans rfl
                 have hfz33_0:=blk_frozen BK250.out 0
                 have hfz33_1:=blk_frozen BK250.out 1
                 have hfz33_2:=blk_frozen BK250.out 2
                 have hfz33_3:=blk_frozen BK250.out 3
                 go_wp2_with (((with_reducible refine gate_builtin (b:=.append) (xs:=#[.tmp 94,.tmp 96]) rfl ?_);(try (refine gate_guard (by rfl) ?_;dsimp only));at_builtin;refine Kd.N_append k95 (w0:=w) w.heap.size rfl (.tmp 94) (.tmp 96) 28 95 (.agg #[(.int .i64 0),(.int .i64 0),(.slice none 0 0),(.slice none 0 0)]) 64 rfl Try.underlying28 info95 rfl (by decide) (by omega) u13 x13_2 (⟨2,1,([] : List (S91)),([] : List (S26))⟩ : S95) [.int .i64 2,.int .i64 1,.slice none 0 0,.slice none 0 0] (fun k_ => (w.heap.size ≤ k_) ∧ k_ ≠ gb249 ∧ k_ ≠ gb250) (fun k_ => ((fun k_ => (w.heap.size ≤ k_) ∧ k_ ≠ gb249 ∧ k_ ≠ gb250)) k_ ∧ some k_ ≠ (u13 : Value).ownBlock) rfl (by (go_simp;done)) ?aP (fun _ hk => hk) ?aF ?aO ?aB ?aS ?aL ?_;(case aP => exact (k95_mkF _ _ (⟨2,1,([] : List (S91)),([] : List (S26))⟩ : S95) (Nat.le_refl _) (Kd.F_nil _ _ _) (Nat.le_refl _) (Kd.F_nil _ _ _)));(case aB => exact (by repeat ((with_reducible first | exact HB.out | refine below_set ?_ GE250.out))));(case aF => exact (fun k_ hk => ⟨(Nat.le_trans (below_size (by repeat ((with_reducible first | exact HB.out | refine below_set ?_ GE250.out)))) hk),Kd.freshB (g:=gb249) (o:=.cells #[.int .i64 ((rd_T26 l0 x38_2).f0),.int .i64 ((rd_T26 l0 x38_2).f1),.slice A248_2 ((rd_T26 l0 x38_2).f2).length c248_2] 26 (0,0)) (by (with_reducible repeat (first | refine blk_drewN ?_ _ | refine blk_drew ?_ | refine blk_alloc ?_ _));refine blk_far ?_ NB249_250.out _;exact BK249.out) k_ hk,Kd.freshB (g:=gb250) (o:=.cells #[.int .i64 2,.int .i64 1,.slice none 0 0,.slice none 0 0] 95 (0,0)) (by (with_reducible repeat (first | refine blk_drewN ?_ _ | refine blk_drew ?_ | refine blk_alloc ?_ _));refine blk_put (cs:=#[.int .i64 0,.int .i64 1,.slice none 0 0,.slice none 0 0]) ?_ 0 _ rfl;exact BK250.out) k_ hk⟩));(case aO => exact (by exact Kd.N_mono (Kd.N_far (p:=⟨gb250,0,none⟩) (Kd.N_mono HO_13.out (fun k_ hk => (⟨hk,hk.2.2⟩ : _ ∧ k_ ≠ gb250))) (fun _ hk => hk.2) (.int .i64 2)) (fun _ hk => ⟨hk.1.1,⟨hk.1.2.1,hk.1.2.2⟩⟩)));(case aS => exact (below_size (by repeat ((with_reducible first | exact HB.out | refine below_set ?_ GE250.out)))));(case aL => have:=LMc31.out;omega);intro v253 w34 ho hb hg hat;rw [← Ny252.out] at ho;have n0_:=Aside0.mk (blk_grown (g:=gb249) (o:=.cells #[.int .i64 ((rd_T26 l0 x38_2).f0),.int .i64 ((rd_T26 l0 x38_2).f1),.slice A248_2 ((rd_T26 l0 x38_2).f2).length c248_2] 26 (0,0)) (by (with_reducible repeat (first | refine blk_drewN ?_ _ | refine blk_drew ?_ | refine blk_alloc ?_ _));refine blk_far ?_ NB249_250.out _;exact BK249.out) hg (Kd.N_ne HO_13.out BK249.out (by decide)));have n1_:=Aside0.mk (blk_grown (g:=gb250) (o:=.cells #[.int .i64 2,.int .i64 1,.slice none 0 0,.slice none 0 0] 95 (0,0)) (by (with_reducible repeat (first | refine blk_drewN ?_ _ | refine blk_drew ?_ | refine blk_alloc ?_ _));refine blk_put (cs:=#[.int .i64 0,.int .i64 1,.slice none 0 0,.slice none 0 0]) ?_ 0 _ rfl;exact BK250.out) hg (Kd.N_away HO_13.out (fun _ hk => hk.2.2)));have n2_:=Aside0.mk hb;have n3_:=Aside0.mk ho;clear BK249;clear BK250;clear HB;clear HO_13;have BK249:=n0_;have BK250:=n1_;have HB:=n2_;have HO254:=n3_;clear n0_ n1_ n2_ n3_;clear ho hb hg hat))
                 go_roundg kj24
                 case measure => have:=HJ7.out;have:=HK2.out;have:=HJ15.out;have:=HJ24.out;omega
                 case rel => exact ⟨(y252),(wrap64 (x38_2 + 1)),(by rfl),H',⟨by have:=HJ7.out;have:=HK2.out;have:=HJ15.out;have:=HJ24.out;omega⟩,⟨by exact Kd.N_mono HO254.out (fun _ hk => hk.1)⟩,⟨HB.out⟩⟩
                ·rw [if_neg c31] at H
                 exact absurd H (by simp)
               ·replace c30:=Bool.eq_false_iff.mpr c30
                subst c30
                have H1 : ((attr_Get.f kj24 ((rd_T26 l0 x38_2).f2) a3).bind fun t255 => (if t255.toList = ([] : List UInt8) then (track_settle.j4 kj24 l0 a1 a2 a3 a4 x13_2 (t251.toList != ([] : List UInt8)) l0 (l0.length : Int) x38_2 0 1 ([] : List (S91))) else (if ([] : List (S91)).length < 4398046511104 then (track_settle.j4 kj24 l0 a1 a2 a3 a4 x13_2 (t251.toList != ([] : List UInt8)) l0 (l0.length : Int) x38_2 0 1 (([] : List (S91)) ++ [(⟨a3,(⟨#[]⟩ : ByteArray)⟩ : S91)])) else (none)))) = some (r1,r2):=by rw [if_neg (show ¬ (false = true) by decide)] at H;exact H
                clear H
                have H:=H1
                clear H1
                replace H:=Option.bind_eq_some_iff.mp H
                obtain ⟨t255,A350,H⟩:=H
                replace H : (if t255.toList = ([] : List UInt8) then (track_settle.j4 kj24 l0 a1 a2 a3 a4 x13_2 (t251.toList != ([] : List UInt8)) l0 (l0.length : Int) x38_2 0 1 ([] : List (S91))) else (if ([] : List (S91)).length < 4398046511104 then (track_settle.j4 kj24 l0 a1 a2 a3 a4 x13_2 (t251.toList != ([] : List UInt8)) l0 (l0.length : Int) x38_2 0 1 (([] : List (S91)) ++ [(⟨a3,(⟨#[]⟩ : ByteArray)⟩ : S91)])) else (none))) = some (r1,r2):=H
                have A35:=Aside0.mk A350
                clear A350
                have HC36:=Aside0.mk H
                clear H
                have hnb37:=NB249_250.out
                have hnc37:=NB250_249.out
                have hcz38_0 : wc.cell? ⟨gb249,0,none⟩ = some (.int .i64 ((rd_T26 l0 x38_2).f0)):=(blk_cell BK249.out 0).trans rfl
                have hcz38_1 : wc.cell? ⟨gb249,1,none⟩ = some (.int .i64 ((rd_T26 l0 x38_2).f1)):=(blk_cell BK249.out 1).trans rfl
                have hcz38_2 : wc.cell? ⟨gb249,2,none⟩ = some (.slice A248_2 ((rd_T26 l0 x38_2).f2).length c248_2):=(blk_cell BK249.out 2).trans rfl
                have hfz38_0:=blk_frozen BK249.out 0
                have hfz38_1:=blk_frozen BK249.out 1
                have hfz38_2:=blk_frozen BK249.out 2
                go_upto_if 70 with (((with_reducible refine gate_callee (f:=84) rfl ?_);refine goesL_ (some 69) rfl rfl Try.func84 (by kernel_rfl) rfl #[.slice A248_2 ((rd_T26 l0 x38_2).f2).length c248_2,.string a3] rfl (by (try simp only [List.map_toArray,List.map_cons,List.map_nil]);rfl) ?_;(with_reducible refine (attr_Get.calls kj24 _ _ ((rd_T26 l0 x38_2).f2) a3 t255 _ ?side1 ?side2 A35.out).mono ?_);(case side1 => repeat (exact (Kd.C_below HR248_2.out HB.out)));(case side2 => exact HC248_2.out);rintro e w39 ⟨rfl,hb⟩;refine ⟨_,rfl,?_⟩;have n0_:=Aside0.mk (Kd.N_below HO_13.out hb);have n1_:=Aside0.mk (blk_below BK249.out hb);have n2_:=Aside0.mk (blk_below BK250.out hb);have n3_:=Aside0.mk (below_step HB.out hb);clear HO_13;clear BK249;clear BK250;clear HB;have HO_13:=n0_;have BK249:=n1_;have BK250:=n2_;have HB:=n3_;clear n0_ n1_ n2_ n3_;(try clear hb);(try clear hb2);(try clear hk);(try clear hi)))
                (try simp only [Act.put,List.setIfInBounds_toArray,List.set_cons_zero,List.set_cons_succ])
                go_cut [] (fun wc => ∃ (kq : Nat) (x251002_35 : List (S91)) (u251002 : Value),Aside0 (track_settle.j4 kq l0 a1 a2 a3 a4 x13_2 (t251.toList != ([] : List UInt8)) l0 (l0.length : Int) x38_2 0 1 x251002_35 = some (r1,r2)) ∧ Aside0 (kq ≤ kj24) ∧ Aside0 (Kd.N k95 95 wc w.heap.size (fun k_ => (w.heap.size ≤ k_) ∧ some k_ ≠ (u251002 : Value).ownBlock ∧ k_ ≠ gb249 ∧ k_ ≠ gb250) u13 x13_2) ∧ Aside0 (Kd.R k91 91 wc w.heap.size (fun k_ => (w.heap.size ≤ k_)) u251002 x251002_35) ∧ Aside0 (wc.heap[gb249]? = some (.cells #[.int .i64 ((rd_T26 l0 x38_2).f0),.int .i64 ((rd_T26 l0 x38_2).f1),(.slice A248_2 ((rd_T26 l0 x38_2).f2).length c248_2)] 26 (0,0))) ∧ Aside0 (wc.heap[gb250]? = some (.cells #[.int .i64 0,.int .i64 1,u251002,(.slice none 0 0)] 95 (0,0))) ∧ Aside0 (Below w.heap.size w wc))
                case first =>
                 have H:=HC36.out
                 clear HC36
                 by_cases c40 : t255.toList = ([] : List UInt8)
                 ·rw [if_pos c40] at H
                  have c40b0 : (t255.toList == ([] : List UInt8)) = true:=beq_iff_eq.mpr c40
                  have c40b9 : t255.toList.isEmpty = true:=by rw [c40];rfl
                  have c40b8 : (!t255.toList.isEmpty) = false:=by rw [c40b9];rfl
                  have c40b1 : (t255.toList != ([] : List UInt8)) = false:=bne_eq_false_iff_eq.mpr c40
                  clear c40
                  (rw [c40b8])
                  have H':=Aside0.mk H
                  clear H
                  go_wp2
                  go_meet
                  case rel => exact ⟨_,(([] : List (S91))),(.slice none 0 0),H',⟨by have:=HJ7.out;have:=HK2.out;have:=HJ15.out;have:=HJ24.out;omega⟩,⟨by exact Kd.N_mono HO_13.out (fun _ hk => ⟨hk.1,⟨(by simp [Value.ownBlock]),⟨hk.2.1,hk.2.2⟩⟩⟩)⟩,⟨by exact Kd.R_nil _ _ _ _ _⟩,⟨by exact BK249.out⟩,⟨by exact BK250.out⟩,⟨HB.out⟩⟩
                 ·rw [if_neg c40] at H
                  have c40b0 : (t255.toList == ([] : List UInt8)) = false:=beq_eq_false_iff_ne.mpr c40
                  have c40b9 : t255.toList.isEmpty = false:=by cases h_ : t255.toList with | nil => exact absurd h_ c40 | cons _ _ => rfl
                  have c40b8 : (!t255.toList.isEmpty) = true:=by rw [c40b9];rfl
                  have c40b1 : (t255.toList != ([] : List UInt8)) = true:=bne_iff_ne.mpr c40
                  (rw [c40b8])
                  by_cases c41 : ([] : List (S91)).length < 4398046511104
                  ·rw [if_pos c41] at H
                   have LMc41:=Aside0.mk c41
                   clear c41
                   obtain ⟨y256,hy256⟩ : ∃ y_ : List (S91),y_ = (([] : List (S91)) ++ [(⟨a3,(⟨#[]⟩ : ByteArray)⟩ : S91)]):=⟨_,rfl⟩
                   replace H : (track_settle.j4 kj24 l0 a1 a2 a3 a4 x13_2 (t251.toList != ([] : List UInt8)) l0 (l0.length : Int) x38_2 0 1 y256) = some (r1,r2):=by (rw [hy256];with_reducible exact H)
                   have Ny256:=Aside0.mk hy256
                   clear hy256
                   have H':=Aside0.mk H
                   clear H
                   have hnb42:=NB250_249.out
                   have hnc42:=NB249_250.out
                   have hcz43_0 : w39.cell? ⟨gb250,0,none⟩ = some (.int .i64 0):=(blk_cell BK250.out 0).trans rfl
                   have hcz43_1 : w39.cell? ⟨gb250,1,none⟩ = some (.int .i64 1):=(blk_cell BK250.out 1).trans rfl
                   have hcz43_2 : w39.cell? ⟨gb250,2,none⟩ = some (.slice none 0 0):=(blk_cell BK250.out 2).trans rfl
                   have hcz43_3 : w39.cell? ⟨gb250,3,none⟩ = some (.slice none 0 0):=(blk_cell BK250.out 3).trans rfl
                   have hfz43_0:=blk_frozen BK250.out 0
                   have hfz43_1:=blk_frozen BK250.out 1
                   have hfz43_2:=blk_frozen BK250.out 2
                   have hfz43_3:=blk_frozen BK250.out 3
                   go_wp2_with (((with_reducible refine gate_builtin (b:=.append) (xs:=#[.tmp 72,.tmp 75]) rfl ?_);(try (refine gate_guard (by rfl) ?_;dsimp only));at_builtin;refine Kd.R_append k91 (w0:=w) w.heap.size rfl (.tmp 72) (.tmp 75) 24 91 (.agg #[(.string ⟨#[]⟩),(.string ⟨#[]⟩)]) 32 rfl Try.underlying24 info91 rfl (by decide) (by omega) (.slice none 0 0) ([] : List (S91)) (⟨a3,(⟨#[]⟩ : ByteArray)⟩ : S91) [.string a3,.string (⟨#[]⟩ : ByteArray)] (fun k_ => (w.heap.size ≤ k_)) (fun _ => False) rfl rfl ?aP (fun _ hk => hk.elim) ?aF ?aO ?aB ?aS ?aL ?_;(case aP => exact k91_mkM _ _ _ (⟨a3,(⟨#[]⟩ : ByteArray)⟩ : S91));(case aB => exact HB.out);(case aF => exact (fun k_ hk => (Nat.le_trans (below_size HB.out) hk)));(case aO => exact ((Kd.R_nil _ _ _ _ (fun k_ => (w.heap.size ≤ k_)))));(case aS => exact (below_size HB.out));(case aL => have:=LMc41.out;omega);intro v257 w44 ho hb hg hat;rw [← Ny256.out] at ho;have n0_:=Aside0.mk (Kd.N_afterv (Kd.N_apart_nil HO_13.out) hg hat);have n1_:=Aside0.mk (blk_grown BK249.out hg (by simp [Value.ownBlock]));have n2_:=Aside0.mk (blk_grown BK250.out hg (by simp [Value.ownBlock]));have n3_:=Aside0.mk hb;have n4_:=Aside0.mk ho;clear HO_13;clear BK249;clear BK250;clear HB;have HO_13:=n0_;have BK249:=n1_;have BK250:=n2_;have HB:=n3_;have HO258:=n4_;clear n0_ n1_ n2_ n3_ n4_;clear ho hb hg hat;obtain ⟨Ao45,co45,eo45⟩:=Kd.R_slice HO258.out;subst eo45;have hcz46_0 : w44.cell? ⟨gb250,0,none⟩ = some (.int .i64 0):=(blk_cell BK250.out 0).trans rfl;have hcz46_1 : w44.cell? ⟨gb250,1,none⟩ = some (.int .i64 1):=(blk_cell BK250.out 1).trans rfl;have hcz46_2 : w44.cell? ⟨gb250,2,none⟩ = some (.slice none 0 0):=(blk_cell BK250.out 2).trans rfl;have hcz46_3 : w44.cell? ⟨gb250,3,none⟩ = some (.slice none 0 0):=(blk_cell BK250.out 3).trans rfl;have hfz46_0:=blk_frozen BK250.out 0;have hfz46_1:=blk_frozen BK250.out 1;have hfz46_2:=blk_frozen BK250.out 2;have hfz46_3:=blk_frozen BK250.out 3))
                   go_meet
                   case rel => exact ⟨_,(y256),(.slice Ao45 y256.length co45),H',⟨by have:=HJ7.out;have:=HK2.out;have:=HJ15.out;have:=HJ24.out;omega⟩,⟨by exact Kd.N_mono (Kd.N_far (p:=⟨gb250,2,none⟩) (Kd.N_mono HO_13.out (fun k_ hk => (⟨hk,hk.1.2.2⟩ : _ ∧ k_ ≠ gb250))) (fun _ hk => hk.2) (.slice Ao45 y256.length co45)) (fun _ hk => ⟨hk.1.1.1,⟨hk.1.2,⟨hk.1.1.2.1,hk.1.1.2.2⟩⟩⟩)⟩,⟨by exact Kd.R_mono (Kd.R_far (p:=⟨gb250,2,none⟩) (Kd.R_types HO258.out BK250.out (by decide)) (fun _ hk => hk.2) (.slice Ao45 y256.length co45)) (fun _ hk => hk.1)⟩,⟨by (with_reducible repeat (first | refine blk_drewN ?_ _ | refine blk_drew ?_ | refine blk_alloc ?_ _));refine blk_far ?_ NB249_250.out _;exact BK249.out⟩,⟨by (with_reducible repeat (first | refine blk_drewN ?_ _ | refine blk_drew ?_ | refine blk_alloc ?_ _));refine blk_put (cs:=#[.int .i64 0,.int .i64 1,.slice none 0 0,.slice none 0 0]) ?_ 2 _ rfl;exact BK250.out⟩,⟨by repeat ((with_reducible first | exact HB.out | refine below_set ?_ GE250.out))⟩⟩
                  ·rw [if_neg c41] at H
                   exact absurd H (by simp)
                case rest =>
                 clear HC36
                 try clear hcz38_0
                 try clear hcz38_1
                 try clear hcz38_2
                 try clear hfz38_0
                 try clear hfz38_1
                 try clear hfz38_2
                 obtain ⟨kq,x251002_35,u251002,HA,HJ35,HO_13,HO_251002,BK249,BK250,HB⟩:=hcut
                 cases kq with
                 | zero => exact absurd HA.out (by simp [track_settle.j4])
                 | succ kj35 =>
                  have H:=HA.out
                  clear HA
                  simp only [track_settle.j4] at H
                  by_cases c47 : (t251.toList != ([] : List UInt8)) = true
                  ·rw [if_pos c47] at H
                   have c47b0 : (t251.toList != ([] : List UInt8)) = true:=c47
                   have c47b9 : t251.toList.isEmpty = false:=by simpa using c47b0
                   have c47b8 : (!t251.toList.isEmpty) = true:=by rw [c47b9];rfl
                   (rw [c47b0])
                   (try (have c47b1 : decide (t251.toList = ([] : List UInt8)) = false:=by simpa using c47))
                   (try (have c47b2 : (t251.toList == ([] : List UInt8)) = false:=by simpa using c47))
                   (try (have c47b3 : ¬ (t251.toList = ([] : List UInt8)):=by simpa using c47))
                   clear c47
                   by_cases c48 : x251002_35.length < 4398046511104
                   ·rw [if_pos c48] at H
                    have LMc48:=Aside0.mk c48
                    clear c48
                    obtain ⟨y259,hy259⟩ : ∃ y_ : List (S91),y_ = (x251002_35 ++ [(⟨a4,(⟨#[]⟩ : ByteArray)⟩ : S91)]):=⟨_,rfl⟩
                    replace H : (if (y259.length : Int) = 2 then (if x13_2.length < 2199023255552 then (track_settle.l0 kj35 l0 a1 a2 a3 a4 (x13_2 ++ [(⟨0,1,(([(⟨(⟨#[97,100,100]⟩ : ByteArray),(⟨#[]⟩ : ByteArray)⟩ : S91),(⟨(⟨#[99,117,116]⟩ : ByteArray),(⟨#[]⟩ : ByteArray)⟩ : S91)] : List (S91))),([] : List (S26))⟩ : S95)]) l0 (l0.length : Int) (wrap64 (x38_2 + 1))) else (none)) else (if x13_2.length < 2199023255552 then (track_settle.l0 kj35 l0 a1 a2 a3 a4 (x13_2 ++ [(⟨0,1,y259,([] : List (S26))⟩ : S95)]) l0 (l0.length : Int) (wrap64 (x38_2 + 1))) else (none))) = some (r1,r2):=by (have H2_:=(Option.bind_some _ _).symm.trans H;rw [hy259];with_reducible exact H2_)
                    have Ny259:=Aside0.mk hy259
                    clear hy259
                    by_cases c49 : (y259.length : Int) = 2
                    ·rw [if_pos c49] at H
                     have c49b0 : ((y259.length : Int) == 2) = true:=beq_iff_eq.mpr c49
                     have c49b1 : ((y259.length : Int) != 2) = false:=bne_eq_false_iff_eq.mpr c49
                     clear c49
                     obtain ⟨y262,hy262⟩ : ∃ y_ : List (S91),y_ = (([(⟨(⟨#[97,100,100]⟩ : ByteArray),(⟨#[]⟩ : ByteArray)⟩ : S91),(⟨(⟨#[99,117,116]⟩ : ByteArray),(⟨#[]⟩ : ByteArray)⟩ : S91)] : List (S91))):=⟨_,rfl⟩
                     replace H : (if x13_2.length < 2199023255552 then (track_settle.l0 kj35 l0 a1 a2 a3 a4 (x13_2 ++ [(⟨0,1,y262,([] : List (S26))⟩ : S95)]) l0 (l0.length : Int) (wrap64 (x38_2 + 1))) else (none)) = some (r1,r2):=by (rw [hy262];with_reducible exact H)
                     have Ny262:=Aside0.mk hy262
                     clear hy262
                     by_cases c50 : x13_2.length < 2199023255552
                     ·rw [if_pos c50] at H
                      have LMc50:=Aside0.mk c50
                      clear c50
                      obtain ⟨y265,hy265⟩ : ∃ y_ : List (S95),y_ = (x13_2 ++ [(⟨0,1,y262,([] : List (S26))⟩ : S95)]):=⟨_,rfl⟩
                      replace H : (track_settle.l0 kj35 l0 a1 a2 a3 a4 y265 l0 (l0.length : Int) (wrap64 (x38_2 + 1))) = some (r1,r2):=by (rw [hy265];with_reducible exact H)
                      have Ny265:=Aside0.mk hy265
                      clear hy265
                      have H':=Aside0.mk H
                      clear H
                      have hnb51:=NB250_249.out
                      have hnc51:=NB249_250.out
                      have hcz52_0 : wc.cell? ⟨gb250,0,none⟩ = some (.int .i64 0):=(blk_cell BK250.out 0).trans rfl
                      have hcz52_1 : wc.cell? ⟨gb250,1,none⟩ = some (.int .i64 1):=(blk_cell BK250.out 1).trans rfl
                      have hcz52_2 : wc.cell? ⟨gb250,2,none⟩ = some (u251002):=(blk_cell BK250.out 2).trans rfl
                      have hcz52_3 : wc.cell? ⟨gb250,3,none⟩ = some (.slice none 0 0):=(blk_cell BK250.out 3).trans rfl
                      have hfz52_0:=blk_frozen BK250.out 0
                      have hfz52_1:=blk_frozen BK250.out 1
                      have hfz52_2:=blk_frozen BK250.out 2
                      have hfz52_3:=blk_frozen BK250.out 3
                      go_wp2_with (first | ((with_reducible refine gate_builtin (b:=.append) (xs:=#[.tmp 80,.tmp 83]) rfl ?_);(try (refine gate_guard (by rfl) ?_;dsimp only));at_builtin;refine Kd.R_append k91 (w0:=w) w.heap.size rfl (.tmp 80) (.tmp 83) 24 91 (.agg #[(.string ⟨#[]⟩),(.string ⟨#[]⟩)]) 32 rfl Try.underlying24 info91 rfl (by decide) (by omega) u251002 x251002_35 (⟨a4,(⟨#[]⟩ : ByteArray)⟩ : S91) [.string a4,.string (⟨#[]⟩ : ByteArray)] (fun k_ => (w.heap.size ≤ k_)) (fun _ => False) rfl rfl ?aP (fun _ hk => hk.elim) ?aF ?aO ?aB ?aS ?aL ?_;(case aP => exact k91_mkM _ _ _ (⟨a4,(⟨#[]⟩ : ByteArray)⟩ : S91));(case aB => exact HB.out);(case aF => exact (fun k_ hk => (Nat.le_trans (below_size HB.out) hk)));(case aO => exact HO_251002.out);(case aS => exact (below_size HB.out));(case aL => have:=LMc48.out;omega);intro v260 w53 ho hb hg hat;rw [← Ny259.out] at ho;have n0_:=Aside0.mk (Kd.N_afterv (ok:=(fun k_ => (w.heap.size ≤ k_) ∧ k_ ≠ gb249 ∧ k_ ≠ gb250)) (by exact Kd.N_mono HO_13.out (fun _ hk => ⟨⟨hk.1,⟨hk.2.2.1,hk.2.2.2⟩⟩,hk.2.1⟩)) hg hat);have n1_:=Aside0.mk (blk_grown BK249.out hg (Kd.R_ne HO_251002.out BK249.out (by decide)));have n2_:=Aside0.mk (blk_grown BK250.out hg (Kd.R_ne HO_251002.out BK250.out (by decide)));have n3_:=Aside0.mk hb;have n4_:=Aside0.mk ho;clear HO_13;clear BK249;clear BK250;clear HB;clear HO_251002;have HO_13:=n0_;have BK249:=n1_;have BK250:=n2_;have HB:=n3_;have HO261:=n4_;clear n0_ n1_ n2_ n3_ n4_;clear ho hb hg hat;obtain ⟨Ao54,co54,eo54⟩:=Kd.R_slice HO261.out;subst eo54;have hcz55_0 : w53.cell? ⟨gb250,0,none⟩ = some (.int .i64 0):=(blk_cell BK250.out 0).trans rfl;have hcz55_1 : w53.cell? ⟨gb250,1,none⟩ = some (.int .i64 1):=(blk_cell BK250.out 1).trans rfl;have hcz55_2 : w53.cell? ⟨gb250,2,none⟩ = some (u251002):=(blk_cell BK250.out 2).trans rfl;have hcz55_3 : w53.cell? ⟨gb250,3,none⟩ = some (.slice none 0 0):=(blk_cell BK250.out 3).trans rfl;have hfz55_0:=blk_frozen BK250.out 0;have hfz55_1:=blk_frozen BK250.out 1;have hfz55_2:=blk_frozen BK250.out 2;have hfz55_3:=blk_frozen BK250.out 3) | ((with_reducible refine gate_dst (N:=92) rfl ?_);(try (refine gate_guard (by rfl) ?_;dsimp only));refine Kd.R_lit k91 _ 91 ?hg (N:=92) ?hd (xs:=([(⟨(⟨#[97,100,100]⟩ : ByteArray),(⟨#[]⟩ : ByteArray)⟩ : S91),(⟨(⟨#[99,117,116]⟩ : ByteArray),(⟨#[]⟩ : ByteArray)⟩ : S91)] : List (S91))) (inner:=[.string (⟨#[97,100,100]⟩ : ByteArray),.string (⟨#[]⟩ : ByteArray),.string (⟨#[99,117,116]⟩ : ByteArray),.string (⟨#[]⟩ : ByteArray)]) (ok:=fun _ => True) (okp:=fun _ => True) ?hr ?hp (fun _ hk => hk) trivial (Below.refl _ _) (Nat.le_refl _) (by simp) ?_;(case hd => rfl);(case hg => rfl);(case hr => (go_simp;done));(case hp => exact (Reps.c2 (show Kd.M k91 _ _ _ (⟨(⟨#[97,100,100]⟩ : ByteArray),(⟨#[]⟩ : ByteArray)⟩ : S91) [.string (⟨#[97,100,100]⟩ : ByteArray),.string (⟨#[]⟩ : ByteArray)] from (k91_mkM _ _ _ (⟨(⟨#[97,100,100]⟩ : ByteArray),(⟨#[]⟩ : ByteArray)⟩ : S91) )) (Reps.c2 (show Kd.M k91 _ _ _ (⟨(⟨#[99,117,116]⟩ : ByteArray),(⟨#[]⟩ : ByteArray)⟩ : S91) [.string (⟨#[99,117,116]⟩ : ByteArray),.string (⟨#[]⟩ : ByteArray)] from (k91_mkM _ _ _ (⟨(⟨#[99,117,116]⟩ : ByteArray),(⟨#[]⟩ : ByteArray)⟩ : S91) )) (Reps.none _ _))));intro v263 w56 ho57 hb hg_ hnew_;clear hg_ hnew_;(rw [← Ny262.out] at ho57);have n0_:=Aside0.mk (Kd.N_elder' (by exact (Kd.N_mono (Kd.N_far (p:=⟨gb250,2,none⟩) (Kd.N_mono HO_13.out (fun k_ hk => (⟨hk,hk.1.2.2⟩ : _ ∧ k_ ≠ gb250))) (fun _ hk => hk.2) (.slice Ao54 y259.length co54)) (fun _ h_ => h_.1))) (Kd.R_base ho57) hb);have n1_:=Aside0.mk (Kd.R_elder' (by exact (Kd.R_mono (Kd.R_far (p:=⟨gb250,2,none⟩) (Kd.R_types HO261.out BK250.out (by decide)) (fun _ hk => hk.2) (.slice Ao54 y259.length co54)) (fun _ h_ => h_.1))) (Kd.R_base ho57) hb);have n2_:=Aside0.mk (Kd.R_lower (Kd.R_new' (Kd.R_newM (M:=fun k_ => (w.heap.size ≤ k_)) ho57 (below_size (by repeat ((with_reducible first | exact HB.out | refine below_set ?_ GE250.out)))) (fun k_ h_ => h_)) (Kd.R_lt (by exact (Kd.R_mono (Kd.R_far (p:=⟨gb250,2,none⟩) (Kd.R_types HO261.out BK250.out (by decide)) (fun _ hk => hk.2) (.slice Ao54 y259.length co54)) (fun _ h_ => h_.1))))) (below_size (by repeat ((with_reducible first | exact HB.out | refine below_set ?_ GE250.out)))));have n3_:=Aside0.mk (blk_below (g:=gb249) (o:=.cells #[.int .i64 ((rd_T26 l0 x38_2).f0),.int .i64 ((rd_T26 l0 x38_2).f1),.slice A248_2 ((rd_T26 l0 x38_2).f2).length c248_2] 26 (0,0)) (by (with_reducible repeat (first | refine blk_drewN ?_ _ | refine blk_drew ?_ | refine blk_alloc ?_ _));refine blk_far ?_ NB249_250.out _;exact BK249.out) hb);have n4_:=Aside0.mk (blk_below (g:=gb250) (o:=.cells #[.int .i64 0,.int .i64 1,.slice Ao54 y259.length co54,.slice none 0 0] 95 (0,0)) (by (with_reducible repeat (first | refine blk_drewN ?_ _ | refine blk_drew ?_ | refine blk_alloc ?_ _));refine blk_put (cs:=#[.int .i64 0,.int .i64 1,u251002,.slice none 0 0]) ?_ 2 _ rfl;exact BK250.out) hb);have n5_:=Aside0.mk (below_step (by repeat ((with_reducible first | exact HB.out | refine below_set ?_ GE250.out))) hb);clear HO_13;clear HO261;clear BK249;clear BK250;clear HB;have HO_13:=n0_;have HO261:=n1_;have HO264:=n2_;have BK249:=n3_;have BK250:=n4_;have HB:=n5_;clear n0_ n1_ n2_ n3_ n4_ n5_;clear hb ho57;obtain ⟨Ao58,co58,eo58⟩:=Kd.R_slice HO264.out;subst eo58;have hcz59_0 : w56.cell? ⟨gb250,0,none⟩ = some (.int .i64 0):=(blk_cell BK250.out 0).trans rfl;have hcz59_1 : w56.cell? ⟨gb250,1,none⟩ = some (.int .i64 1):=(blk_cell BK250.out 1).trans rfl;have hcz59_2 : w56.cell? ⟨gb250,2,none⟩ = some (.slice Ao54 y259.length co54):=(blk_cell BK250.out 2).trans rfl;have hcz59_3 : w56.cell? ⟨gb250,3,none⟩ = some (.slice none 0 0):=(blk_cell BK250.out 3).trans rfl;have hfz59_0:=blk_frozen BK250.out 0;have hfz59_1:=blk_frozen BK250.out 1;have hfz59_2:=blk_frozen BK250.out 2;have hfz59_3:=blk_frozen BK250.out 3) | ((with_reducible refine gate_store (t:=24) (p:=93) rfl ?_);refine store_event (t:=24) (p:=93) (v:=?vo_w60) (w1:=(w56.setCell ⟨gb250,2,none⟩ (.slice Ao58 y262.length co58))) ?hg ?ho ?hn ?hr ?_;(case ho => rfl);(case hg => rfl);(case hn => rfl);(case hr => (go_simp;done));intro w60 hw;have n0_ : Aside0 (Kd.N k95 95 w60 w.heap.size (fun k_ => (w.heap.size ≤ k_) ∧ some k_ ≠ (.slice Ao54 y259.length co54 : Value).ownBlock ∧ some k_ ≠ (.slice Ao58 y262.length co58 : Value).ownBlock ∧ k_ ≠ gb249 ∧ k_ ≠ gb250) u13 x13_2):=⟨(by rw [hw];exact (by exact Kd.N_mono (Kd.N_far (p:=⟨gb250,2,none⟩) (Kd.N_mono HO_13.out (fun k_ hk => (⟨hk,hk.1.1.2.2⟩ : _ ∧ k_ ≠ gb250))) (fun _ hk => hk.2) (.slice Ao58 y262.length co58)) (fun _ hk => ⟨hk.1.1.1.1,⟨hk.1.1.2,⟨hk.1.2,⟨hk.1.1.1.2.1,hk.1.1.1.2.2⟩⟩⟩⟩)))⟩;have n1_ : Aside0 (Kd.R k91 91 w60 w.heap.size (fun k_ => (w.heap.size ≤ k_) ∧ some k_ ≠ (.slice Ao58 y262.length co58 : Value).ownBlock) (.slice Ao54 y259.length co54) y259):=⟨(by rw [hw];exact (by exact Kd.R_mono (Kd.R_far (p:=⟨gb250,2,none⟩) (Kd.R_types HO261.out BK250.out (by decide)) (fun _ hk => hk.2) (.slice Ao58 y262.length co58)) (fun _ hk => ⟨hk.1.1,hk.1.2⟩)))⟩;have n2_ : Aside0 (Kd.R k91 91 w60 w.heap.size (fun k_ => (w.heap.size ≤ k_) ∧ some k_ ≠ (.slice Ao54 y259.length co54 : Value).ownBlock) (.slice Ao58 y262.length co58) y262):=⟨(by rw [hw];exact (by exact Kd.R_mono (Kd.R_far (p:=⟨gb250,2,none⟩) (Kd.R_types HO264.out BK250.out (by decide)) (fun _ hk => hk.2) (.slice Ao58 y262.length co58)) (fun _ hk => ⟨hk.1.1.1,hk.1.2⟩)))⟩;have n3_ : Aside0 (w60.heap[gb249]? = some (.cells #[.int .i64 ((rd_T26 l0 x38_2).f0),.int .i64 ((rd_T26 l0 x38_2).f1),.slice A248_2 ((rd_T26 l0 x38_2).f2).length c248_2] 26 (0,0))):=⟨(by rw [hw];exact (by (with_reducible repeat (first | refine blk_drewN ?_ _ | refine blk_drew ?_ | refine blk_alloc ?_ _));refine blk_far ?_ NB249_250.out _;exact BK249.out))⟩;have n4_ : Aside0 (w60.heap[gb250]? = some (.cells #[.int .i64 0,.int .i64 1,.slice Ao58 y262.length co58,.slice none 0 0] 95 (0,0))):=⟨(by rw [hw];exact (by (with_reducible repeat (first | refine blk_drewN ?_ _ | refine blk_drew ?_ | refine blk_alloc ?_ _));refine blk_put (cs:=#[.int .i64 0,.int .i64 1,.slice Ao54 y259.length co54,.slice none 0 0]) ?_ 2 _ rfl;exact BK250.out))⟩;have n5_ : Aside0 (Below w.heap.size w w60):=⟨(by rw [hw];exact (by repeat ((with_reducible first | exact HB.out | refine below_set ?_ GE250.out))))⟩;clear hw;clear HO_13;clear HO261;clear HO264;clear BK249;clear BK250;clear HB;have HO_13:=n0_;have HO261:=n1_;have HO264:=n2_;have BK249:=n3_;have BK250:=n4_;have HB:=n5_;clear n0_ n1_ n2_ n3_ n4_ n5_;have hcz61_0 : w60.cell? ⟨gb250,0,none⟩ = some (.int .i64 0):=(blk_cell BK250.out 0).trans rfl;have hcz61_1 : w60.cell? ⟨gb250,1,none⟩ = some (.int .i64 1):=(blk_cell BK250.out 1).trans rfl;have hcz61_2 : w60.cell? ⟨gb250,2,none⟩ = some (.slice Ao58 y262.length co58):=(blk_cell BK250.out 2).trans rfl;have hcz61_3 : w60.cell? ⟨gb250,3,none⟩ = some (.slice none 0 0):=(blk_cell BK250.out 3).trans rfl;have hfz61_0:=blk_frozen BK250.out 0;have hfz61_1:=blk_frozen BK250.out 1;have hfz61_2:=blk_frozen BK250.out 2;have hfz61_3:=blk_frozen BK250.out 3) | ((with_reducible refine gate_builtin (b:=.append) (xs:=#[.tmp 94,.tmp 96]) rfl ?_);(try (refine gate_guard (by rfl) ?_;dsimp only));at_builtin;refine Kd.N_append k95 (w0:=w) w.heap.size rfl (.tmp 94) (.tmp 96) 28 95 (.agg #[(.int .i64 0),(.int .i64 0),(.slice none 0 0),(.slice none 0 0)]) 64 rfl Try.underlying28 info95 rfl (by decide) (by omega) u13 x13_2 (⟨0,1,y262,([] : List (S26))⟩ : S95) [.int .i64 0,.int .i64 1,.slice Ao58 y262.length co58,.slice none 0 0] (fun k_ => (w.heap.size ≤ k_) ∧ some k_ ≠ (.slice Ao54 y259.length co54 : Value).ownBlock ∧ k_ ≠ gb249 ∧ k_ ≠ gb250) (fun k_ => ((fun k_ => (w.heap.size ≤ k_) ∧ some k_ ≠ (.slice Ao54 y259.length co54 : Value).ownBlock ∧ k_ ≠ gb249 ∧ k_ ≠ gb250)) k_ ∧ some k_ ≠ (u13 : Value).ownBlock) rfl rfl ?aP (fun _ hk => hk) ?aF ?aO ?aB ?aS ?aL ?_;(case aP => exact (k95_mkF _ _ (⟨0,1,y262,([] : List (S26))⟩ : S95) (Kd.R_reads' (Kd.R_mono (ok':=(fun k_ => ((fun k_ => (w.heap.size ≤ k_) ∧ some k_ ≠ (.slice Ao54 y259.length co54 : Value).ownBlock ∧ k_ ≠ gb249 ∧ k_ ≠ gb250)) k_ ∧ some k_ ≠ (u13 : Value).ownBlock)) (Kd.R_types (Kd.R_types (Kd.R_apart' (HO264.out) (Kd.N_typed HO_13.out) (by decide)) BK249.out (by decide)) BK250.out (by decide)) (fun k_ hk => ⟨⟨hk.1.1.1.1,⟨hk.1.1.1.2,⟨hk.1.2,hk.2⟩⟩⟩,hk.1.1.2⟩))).2.1 (Kd.R_F (Kd.R_mono (ok':=(fun k_ => ((fun k_ => (w.heap.size ≤ k_) ∧ some k_ ≠ (.slice Ao54 y259.length co54 : Value).ownBlock ∧ k_ ≠ gb249 ∧ k_ ≠ gb250)) k_ ∧ some k_ ≠ (u13 : Value).ownBlock)) (Kd.R_types (Kd.R_types (Kd.R_apart' (HO264.out) (Kd.N_typed HO_13.out) (by decide)) BK249.out (by decide)) BK250.out (by decide)) (fun k_ hk => ⟨⟨hk.1.1.1.1,⟨hk.1.1.1.2,⟨hk.1.2,hk.2⟩⟩⟩,hk.1.1.2⟩))) (Nat.le_refl _) (Kd.F_nil _ _ _)));(case aB => exact HB.out);(case aF => exact (fun k_ hk => ⟨(Nat.le_trans (below_size HB.out) hk),Kd.fresh' (Kd.R_lt HO261.out) k_ hk,Kd.freshB BK249.out k_ hk,Kd.freshB BK250.out k_ hk⟩));(case aO => exact (by exact Kd.N_mono HO_13.out (fun _ hk => ⟨hk.1,⟨hk.2.1,⟨hk.2.2.2.1,hk.2.2.2.2⟩⟩⟩)));(case aS => exact (below_size HB.out));(case aL => have:=LMc50.out;omega);intro v266 w62 ho hb hg hat;rw [← Ny265.out] at ho;have n0_:=Aside0.mk (blk_grown BK249.out hg (Kd.N_ne HO_13.out BK249.out (by decide)));have n1_:=Aside0.mk (blk_grown BK250.out hg (Kd.N_away HO_13.out (fun _ hk => hk.2.2.2.2)));have n2_:=Aside0.mk (Kd.R_over' HO261.out (Kd.N_typed HO_13.out) (by decide) hg);have n3_:=Aside0.mk hb;have n4_:=Aside0.mk ho;clear BK249;clear BK250;clear HO261;clear HB;clear HO_13;clear HO264;have BK249:=n0_;have BK250:=n1_;have HO261:=n2_;have HB:=n3_;have HO267:=n4_;clear n0_ n1_ n2_ n3_ n4_;clear ho hb hg hat))
                      go_roundg kj35
                      case measure => have:=HJ7.out;have:=HK2.out;have:=HJ15.out;have:=HJ24.out;have:=HJ35.out;omega
                      case rel => exact ⟨(y265),(wrap64 (x38_2 + 1)),(by rfl),H',⟨by have:=HJ7.out;have:=HK2.out;have:=HJ15.out;have:=HJ24.out;have:=HJ35.out;omega⟩,⟨by exact Kd.N_mono HO267.out (fun _ hk => hk.1)⟩,⟨HB.out⟩⟩
                     ·rw [if_neg c50] at H
                      exact absurd H (by simp)
                    ·rw [if_neg c49] at H
                     have c49b0 : ((y259.length : Int) == 2) = false:=beq_eq_false_iff_ne.mpr c49
                     have c49b1 : ((y259.length : Int) != 2) = true:=bne_iff_ne.mpr c49
                     by_cases c63 : x13_2.length < 2199023255552
                     ·rw [if_pos c63] at H
                      have LMc63:=Aside0.mk c63
                      clear c63
                      obtain ⟨y268,hy268⟩ : ∃ y_ : List (S95),y_ = (x13_2 ++ [(⟨0,1,y259,([] : List (S26))⟩ : S95)]):=⟨_,rfl⟩
                      replace H : (track_settle.l0 kj35 l0 a1 a2 a3 a4 y268 l0 (l0.length : Int) (wrap64 (x38_2 + 1))) = some (r1,r2):=by (rw [hy268];with_reducible exact H)
                      have Ny268:=Aside0.mk hy268
                      clear hy268
                      have H':=Aside0.mk H
                      clear H
                      have hnb64:=NB250_249.out
                      have hnc64:=NB249_250.out
                      have hcz65_0 : wc.cell? ⟨gb250,0,none⟩ = some (.int .i64 0):=(blk_cell BK250.out 0).trans rfl
                      have hcz65_1 : wc.cell? ⟨gb250,1,none⟩ = some (.int .i64 1):=(blk_cell BK250.out 1).trans rfl
                      have hcz65_2 : wc.cell? ⟨gb250,2,none⟩ = some (u251002):=(blk_cell BK250.out 2).trans rfl
                      have hcz65_3 : wc.cell? ⟨gb250,3,none⟩ = some (.slice none 0 0):=(blk_cell BK250.out 3).trans rfl
                      have hfz65_0:=blk_frozen BK250.out 0
                      have hfz65_1:=blk_frozen BK250.out 1
                      have hfz65_2:=blk_frozen BK250.out 2
                      have hfz65_3:=blk_frozen BK250.out 3
                      go_wp2_with (first | ((with_reducible refine gate_builtin (b:=.append) (xs:=#[.tmp 80,.tmp 83]) rfl ?_);(try (refine gate_guard (by rfl) ?_;dsimp only));at_builtin;refine Kd.R_append k91 (w0:=w) w.heap.size rfl (.tmp 80) (.tmp 83) 24 91 (.agg #[(.string ⟨#[]⟩),(.string ⟨#[]⟩)]) 32 rfl Try.underlying24 info91 rfl (by decide) (by omega) u251002 x251002_35 (⟨a4,(⟨#[]⟩ : ByteArray)⟩ : S91) [.string a4,.string (⟨#[]⟩ : ByteArray)] (fun k_ => (w.heap.size ≤ k_)) (fun _ => False) rfl rfl ?aP (fun _ hk => hk.elim) ?aF ?aO ?aB ?aS ?aL ?_;(case aP => exact k91_mkM _ _ _ (⟨a4,(⟨#[]⟩ : ByteArray)⟩ : S91));(case aB => exact HB.out);(case aF => exact (fun k_ hk => (Nat.le_trans (below_size HB.out) hk)));(case aO => exact HO_251002.out);(case aS => exact (below_size HB.out));(case aL => have:=LMc48.out;omega);intro v260 w66 ho hb hg hat;rw [← Ny259.out] at ho;have n0_:=Aside0.mk (Kd.N_afterv (ok:=(fun k_ => (w.heap.size ≤ k_) ∧ k_ ≠ gb249 ∧ k_ ≠ gb250)) (by exact Kd.N_mono HO_13.out (fun _ hk => ⟨⟨hk.1,⟨hk.2.2.1,hk.2.2.2⟩⟩,hk.2.1⟩)) hg hat);have n1_:=Aside0.mk (blk_grown BK249.out hg (Kd.R_ne HO_251002.out BK249.out (by decide)));have n2_:=Aside0.mk (blk_grown BK250.out hg (Kd.R_ne HO_251002.out BK250.out (by decide)));have n3_:=Aside0.mk hb;have n4_:=Aside0.mk ho;clear HO_13;clear BK249;clear BK250;clear HB;clear HO_251002;have HO_13:=n0_;have BK249:=n1_;have BK250:=n2_;have HB:=n3_;have HO261:=n4_;clear n0_ n1_ n2_ n3_ n4_;clear ho hb hg hat;obtain ⟨Ao67,co67,eo67⟩:=Kd.R_slice HO261.out;subst eo67;have hcz68_0 : w66.cell? ⟨gb250,0,none⟩ = some (.int .i64 0):=(blk_cell BK250.out 0).trans rfl;have hcz68_1 : w66.cell? ⟨gb250,1,none⟩ = some (.int .i64 1):=(blk_cell BK250.out 1).trans rfl;have hcz68_2 : w66.cell? ⟨gb250,2,none⟩ = some (u251002):=(blk_cell BK250.out 2).trans rfl;have hcz68_3 : w66.cell? ⟨gb250,3,none⟩ = some (.slice none 0 0):=(blk_cell BK250.out 3).trans rfl;have hfz68_0:=blk_frozen BK250.out 0;have hfz68_1:=blk_frozen BK250.out 1;have hfz68_2:=blk_frozen BK250.out 2;have hfz68_3:=blk_frozen BK250.out 3) | ((with_reducible refine gate_store (t:=24) (p:=85) rfl ?_);refine store_event (t:=24) (p:=85) (v:=?vo_w69) (w1:=(w66.setCell ⟨gb250,2,none⟩ (.slice Ao67 y259.length co67))) ?hg ?ho ?hn ?hr ?_;(case ho => rfl);(case hg => rfl);(case hn => rfl);(case hr => (go_simp;done));intro w69 hw;have n0_ : Aside0 (Kd.N k95 95 w69 w.heap.size (fun k_ => (w.heap.size ≤ k_) ∧ some k_ ≠ (.slice Ao67 y259.length co67 : Value).ownBlock ∧ k_ ≠ gb249 ∧ k_ ≠ gb250) u13 x13_2):=⟨(by rw [hw];exact (by exact Kd.N_mono (Kd.N_far (p:=⟨gb250,2,none⟩) (Kd.N_mono HO_13.out (fun k_ hk => (⟨hk,hk.1.2.2⟩ : _ ∧ k_ ≠ gb250))) (fun _ hk => hk.2) (.slice Ao67 y259.length co67)) (fun _ hk => ⟨hk.1.1.1,⟨hk.1.2,⟨hk.1.1.2.1,hk.1.1.2.2⟩⟩⟩)))⟩;have n1_ : Aside0 (Kd.R k91 91 w69 w.heap.size (fun k_ => (w.heap.size ≤ k_)) (.slice Ao67 y259.length co67) y259):=⟨(by rw [hw];exact (by exact Kd.R_mono (Kd.R_far (p:=⟨gb250,2,none⟩) (Kd.R_types HO261.out BK250.out (by decide)) (fun _ hk => hk.2) (.slice Ao67 y259.length co67)) (fun _ hk => hk.1)))⟩;have n2_ : Aside0 (w69.heap[gb249]? = some (.cells #[.int .i64 ((rd_T26 l0 x38_2).f0),.int .i64 ((rd_T26 l0 x38_2).f1),.slice A248_2 ((rd_T26 l0 x38_2).f2).length c248_2] 26 (0,0))):=⟨(by rw [hw];exact (by (with_reducible repeat (first | refine blk_drewN ?_ _ | refine blk_drew ?_ | refine blk_alloc ?_ _));refine blk_far ?_ NB249_250.out _;exact BK249.out))⟩;have n3_ : Aside0 (w69.heap[gb250]? = some (.cells #[.int .i64 0,.int .i64 1,.slice Ao67 y259.length co67,.slice none 0 0] 95 (0,0))):=⟨(by rw [hw];exact (by (with_reducible repeat (first | refine blk_drewN ?_ _ | refine blk_drew ?_ | refine blk_alloc ?_ _));refine blk_put (cs:=#[.int .i64 0,.int .i64 1,u251002,.slice none 0 0]) ?_ 2 _ rfl;exact BK250.out))⟩;have n4_ : Aside0 (Below w.heap.size w w69):=⟨(by rw [hw];exact (by repeat ((with_reducible first | exact HB.out | refine below_set ?_ GE250.out))))⟩;clear hw;clear HO_13;clear HO261;clear BK249;clear BK250;clear HB;have HO_13:=n0_;have HO261:=n1_;have BK249:=n2_;have BK250:=n3_;have HB:=n4_;clear n0_ n1_ n2_ n3_ n4_;have hcz70_0 : w69.cell? ⟨gb250,0,none⟩ = some (.int .i64 0):=(blk_cell BK250.out 0).trans rfl;have hcz70_1 : w69.cell? ⟨gb250,1,none⟩ = some (.int .i64 1):=(blk_cell BK250.out 1).trans rfl;have hcz70_2 : w69.cell? ⟨gb250,2,none⟩ = some (.slice Ao67 y259.length co67):=(blk_cell BK250.out 2).trans rfl;have hcz70_3 : w69.cell? ⟨gb250,3,none⟩ = some (.slice none 0 0):=(blk_cell BK250.out 3).trans rfl;have hfz70_0:=blk_frozen BK250.out 0;have hfz70_1:=blk_frozen BK250.out 1;have hfz70_2:=blk_frozen BK250.out 2;have hfz70_3:=blk_frozen BK250.out 3) | ((with_reducible refine gate_builtin (b:=.append) (xs:=#[.tmp 94,.tmp 96]) rfl ?_);(try (refine gate_guard (by rfl) ?_;dsimp only));at_builtin;refine Kd.N_append k95 (w0:=w) w.heap.size rfl (.tmp 94) (.tmp 96) 28 95 (.agg #[(.int .i64 0),(.int .i64 0),(.slice none 0 0),(.slice none 0 0)]) 64 rfl Try.underlying28 info95 rfl (by decide) (by omega) u13 x13_2 (⟨0,1,y259,([] : List (S26))⟩ : S95) [.int .i64 0,.int .i64 1,.slice Ao67 y259.length co67,.slice none 0 0] (fun k_ => (w.heap.size ≤ k_) ∧ k_ ≠ gb249 ∧ k_ ≠ gb250) (fun k_ => ((fun k_ => (w.heap.size ≤ k_) ∧ k_ ≠ gb249 ∧ k_ ≠ gb250)) k_ ∧ some k_ ≠ (u13 : Value).ownBlock) rfl rfl ?aP (fun _ hk => hk) ?aF ?aO ?aB ?aS ?aL ?_;(case aP => exact (k95_mkF _ _ (⟨0,1,y259,([] : List (S26))⟩ : S95) (Kd.R_reads' (Kd.R_mono (ok':=(fun k_ => ((fun k_ => (w.heap.size ≤ k_) ∧ k_ ≠ gb249 ∧ k_ ≠ gb250)) k_ ∧ some k_ ≠ (u13 : Value).ownBlock)) (Kd.R_types (Kd.R_types (Kd.R_apart' (HO261.out) (Kd.N_typed HO_13.out) (by decide)) BK249.out (by decide)) BK250.out (by decide)) (fun k_ hk => ⟨⟨hk.1.1.1,⟨hk.1.2,hk.2⟩⟩,hk.1.1.2⟩))).2.1 (Kd.R_F (Kd.R_mono (ok':=(fun k_ => ((fun k_ => (w.heap.size ≤ k_) ∧ k_ ≠ gb249 ∧ k_ ≠ gb250)) k_ ∧ some k_ ≠ (u13 : Value).ownBlock)) (Kd.R_types (Kd.R_types (Kd.R_apart' (HO261.out) (Kd.N_typed HO_13.out) (by decide)) BK249.out (by decide)) BK250.out (by decide)) (fun k_ hk => ⟨⟨hk.1.1.1,⟨hk.1.2,hk.2⟩⟩,hk.1.1.2⟩))) (Nat.le_refl _) (Kd.F_nil _ _ _)));(case aB => exact HB.out);(case aF => exact (fun k_ hk => ⟨(Nat.le_trans (below_size HB.out) hk),Kd.freshB BK249.out k_ hk,Kd.freshB BK250.out k_ hk⟩));(case aO => exact (by exact Kd.N_mono HO_13.out (fun _ hk => ⟨hk.1,⟨hk.2.2.1,hk.2.2.2⟩⟩)));(case aS => exact (below_size HB.out));(case aL => have:=LMc63.out;omega);intro v269 w71 ho hb hg hat;rw [← Ny268.out] at ho;have n0_:=Aside0.mk (blk_grown BK249.out hg (Kd.N_ne HO_13.out BK249.out (by decide)));have n1_:=Aside0.mk (blk_grown BK250.out hg (Kd.N_away HO_13.out (fun _ hk => hk.2.2.2)));have n2_:=Aside0.mk hb;have n3_:=Aside0.mk ho;clear BK249;clear BK250;clear HB;clear HO_13;clear HO261;have BK249:=n0_;have BK250:=n1_;have HB:=n2_;have HO270:=n3_;clear n0_ n1_ n2_ n3_;clear ho hb hg hat))
                      go_roundg kj35
                      case measure => have:=HJ7.out;have:=HK2.out;have:=HJ15.out;have:=HJ24.out;have:=HJ35.out;omega
                      case rel => exact ⟨(y268),(wrap64 (x38_2 + 1)),(by rfl),H',⟨by have:=HJ7.out;have:=HK2.out;have:=HJ15.out;have:=HJ24.out;have:=HJ35.out;omega⟩,⟨by exact Kd.N_mono HO270.out (fun _ hk => hk.1)⟩,⟨HB.out⟩⟩
                     ·rw [if_neg c63] at H
                      exact absurd H (by simp)
                   ·rw [if_neg c48] at H
                    exact absurd H (by simp)
                  ·rw [if_neg c47] at H
                   have c47b0 : (t251.toList != ([] : List UInt8)) = false:=by simpa using c47
                   have c47b9 : t251.toList.isEmpty = true:=by simpa using c47b0
                   have c47b8 : (!t251.toList.isEmpty) = false:=by rw [c47b9];rfl
                   (rw [c47b0])
                   (try (have c47b1 : decide (t251.toList = ([] : List UInt8)) = true:=by simpa using c47))
                   (try (have c47b2 : (t251.toList == ([] : List UInt8)) = true:=by simpa using c47))
                   clear c47
                   by_cases c72 : (x251002_35.length : Int) = 2
                   ·rw [if_pos c72] at H
                    have c72b0 : ((x251002_35.length : Int) == 2) = true:=beq_iff_eq.mpr c72
                    have c72b1 : ((x251002_35.length : Int) != 2) = false:=bne_eq_false_iff_eq.mpr c72
                    clear c72
                    obtain ⟨y271,hy271⟩ : ∃ y_ : List (S91),y_ = (([(⟨(⟨#[97,100,100]⟩ : ByteArray),(⟨#[]⟩ : ByteArray)⟩ : S91),(⟨(⟨#[99,117,116]⟩ : ByteArray),(⟨#[]⟩ : ByteArray)⟩ : S91)] : List (S91))):=⟨_,rfl⟩
                    replace H : (if x13_2.length < 2199023255552 then (track_settle.l0 kj35 l0 a1 a2 a3 a4 (x13_2 ++ [(⟨0,1,y271,([] : List (S26))⟩ : S95)]) l0 (l0.length : Int) (wrap64 (x38_2 + 1))) else (none)) = some (r1,r2):=by (rw [hy271];with_reducible exact H)
                    have Ny271:=Aside0.mk hy271
                    clear hy271
                    by_cases c73 : x13_2.length < 2199023255552
                    ·rw [if_pos c73] at H
                     have LMc73:=Aside0.mk c73
                     clear c73
                     obtain ⟨y274,hy274⟩ : ∃ y_ : List (S95),y_ = (x13_2 ++ [(⟨0,1,y271,([] : List (S26))⟩ : S95)]):=⟨_,rfl⟩
                     replace H : (track_settle.l0 kj35 l0 a1 a2 a3 a4 y274 l0 (l0.length : Int) (wrap64 (x38_2 + 1))) = some (r1,r2):=by (rw [hy274];with_reducible exact H)
                     have Ny274:=Aside0.mk hy274
                     clear hy274
                     have H':=Aside0.mk H
                     clear H
                     have hnb74:=NB250_249.out
                     have hnc74:=NB249_250.out
                     have hcz75_0 : wc.cell? ⟨gb250,0,none⟩ = some (.int .i64 0):=(blk_cell BK250.out 0).trans rfl
                     have hcz75_1 : wc.cell? ⟨gb250,1,none⟩ = some (.int .i64 1):=(blk_cell BK250.out 1).trans rfl
                     have hcz75_2 : wc.cell? ⟨gb250,2,none⟩ = some (u251002):=(blk_cell BK250.out 2).trans rfl
                     have hcz75_3 : wc.cell? ⟨gb250,3,none⟩ = some (.slice none 0 0):=(blk_cell BK250.out 3).trans rfl
                     have hfz75_0:=blk_frozen BK250.out 0
                     have hfz75_1:=blk_frozen BK250.out 1
                     have hfz75_2:=blk_frozen BK250.out 2
                     have hfz75_3:=blk_frozen BK250.out 3
                     obtain ⟨Ao76,co76,eo76⟩:=Kd.R_slice HO_251002.out
                     subst eo76
                     go_wp2_with (first | ((with_reducible refine gate_dst (N:=92) rfl ?_);(try (refine gate_guard (by rfl) ?_;dsimp only));refine Kd.R_lit k91 _ 91 ?hg (N:=92) ?hd (xs:=([(⟨(⟨#[97,100,100]⟩ : ByteArray),(⟨#[]⟩ : ByteArray)⟩ : S91),(⟨(⟨#[99,117,116]⟩ : ByteArray),(⟨#[]⟩ : ByteArray)⟩ : S91)] : List (S91))) (inner:=[.string (⟨#[97,100,100]⟩ : ByteArray),.string (⟨#[]⟩ : ByteArray),.string (⟨#[99,117,116]⟩ : ByteArray),.string (⟨#[]⟩ : ByteArray)]) (ok:=fun _ => True) (okp:=fun _ => True) ?hr ?hp (fun _ hk => hk) trivial (Below.refl _ _) (Nat.le_refl _) (by simp) ?_;(case hd => rfl);(case hg => rfl);(case hr => (go_simp;done));(case hp => exact (Reps.c2 (show Kd.M k91 _ _ _ (⟨(⟨#[97,100,100]⟩ : ByteArray),(⟨#[]⟩ : ByteArray)⟩ : S91) [.string (⟨#[97,100,100]⟩ : ByteArray),.string (⟨#[]⟩ : ByteArray)] from (k91_mkM _ _ _ (⟨(⟨#[97,100,100]⟩ : ByteArray),(⟨#[]⟩ : ByteArray)⟩ : S91) )) (Reps.c2 (show Kd.M k91 _ _ _ (⟨(⟨#[99,117,116]⟩ : ByteArray),(⟨#[]⟩ : ByteArray)⟩ : S91) [.string (⟨#[99,117,116]⟩ : ByteArray),.string (⟨#[]⟩ : ByteArray)] from (k91_mkM _ _ _ (⟨(⟨#[99,117,116]⟩ : ByteArray),(⟨#[]⟩ : ByteArray)⟩ : S91) )) (Reps.none _ _))));intro v272 w77 ho78 hb hg_ hnew_;clear hg_ hnew_;(rw [← Ny271.out] at ho78);have n0_:=Aside0.mk (Kd.N_elder' HO_13.out (Kd.R_base ho78) hb);have n1_:=Aside0.mk (Kd.R_elder' HO_251002.out (Kd.R_base ho78) hb);have n2_:=Aside0.mk (Kd.R_lower (Kd.R_new' (Kd.R_newM (M:=fun k_ => (w.heap.size ≤ k_)) ho78 (below_size HB.out) (fun k_ h_ => h_)) (Kd.R_lt HO_251002.out)) (below_size HB.out));have n3_:=Aside0.mk (blk_below BK249.out hb);have n4_:=Aside0.mk (blk_below BK250.out hb);have n5_:=Aside0.mk (below_step HB.out hb);clear HO_13;clear HO_251002;clear BK249;clear BK250;clear HB;have HO_13:=n0_;have HO_251002:=n1_;have HO273:=n2_;have BK249:=n3_;have BK250:=n4_;have HB:=n5_;clear n0_ n1_ n2_ n3_ n4_ n5_;clear hb ho78;obtain ⟨Ao79,co79,eo79⟩:=Kd.R_slice HO273.out;subst eo79;have hcz80_0 : w77.cell? ⟨gb250,0,none⟩ = some (.int .i64 0):=(blk_cell BK250.out 0).trans rfl;have hcz80_1 : w77.cell? ⟨gb250,1,none⟩ = some (.int .i64 1):=(blk_cell BK250.out 1).trans rfl;have hcz80_2 : w77.cell? ⟨gb250,2,none⟩ = some (.slice Ao76 x251002_35.length co76):=(blk_cell BK250.out 2).trans rfl;have hcz80_3 : w77.cell? ⟨gb250,3,none⟩ = some (.slice none 0 0):=(blk_cell BK250.out 3).trans rfl;have hfz80_0:=blk_frozen BK250.out 0;have hfz80_1:=blk_frozen BK250.out 1;have hfz80_2:=blk_frozen BK250.out 2;have hfz80_3:=blk_frozen BK250.out 3) | ((with_reducible refine gate_store (t:=24) (p:=93) rfl ?_);refine store_event (t:=24) (p:=93) (v:=?vo_w81) (w1:=(w77.setCell ⟨gb250,2,none⟩ (.slice Ao79 y271.length co79))) ?hg ?ho ?hn ?hr ?_;(case ho => rfl);(case hg => rfl);(case hn => rfl);(case hr => (go_simp;done));intro w81 hw;have n0_ : Aside0 (Kd.N k95 95 w81 w.heap.size (fun k_ => (w.heap.size ≤ k_) ∧ some k_ ≠ (.slice Ao76 x251002_35.length co76 : Value).ownBlock ∧ some k_ ≠ (.slice Ao79 y271.length co79 : Value).ownBlock ∧ k_ ≠ gb249 ∧ k_ ≠ gb250) u13 x13_2):=⟨(by rw [hw];exact (by exact Kd.N_mono (Kd.N_far (p:=⟨gb250,2,none⟩) (Kd.N_mono HO_13.out (fun k_ hk => (⟨hk,hk.1.2.2.2⟩ : _ ∧ k_ ≠ gb250))) (fun _ hk => hk.2) (.slice Ao79 y271.length co79)) (fun _ hk => ⟨hk.1.1.1,⟨hk.1.1.2.1,⟨hk.1.2,⟨hk.1.1.2.2.1,hk.1.1.2.2.2⟩⟩⟩⟩)))⟩;have n1_ : Aside0 (Kd.R k91 91 w81 w.heap.size (fun k_ => (w.heap.size ≤ k_) ∧ some k_ ≠ (.slice Ao79 y271.length co79 : Value).ownBlock) (.slice Ao76 x251002_35.length co76) x251002_35):=⟨(by rw [hw];exact (by exact Kd.R_mono (Kd.R_far (p:=⟨gb250,2,none⟩) (Kd.R_types HO_251002.out BK250.out (by decide)) (fun _ hk => hk.2) (.slice Ao79 y271.length co79)) (fun _ hk => ⟨hk.1.1,hk.1.2⟩)))⟩;have n2_ : Aside0 (Kd.R k91 91 w81 w.heap.size (fun k_ => (w.heap.size ≤ k_) ∧ some k_ ≠ (.slice Ao76 x251002_35.length co76 : Value).ownBlock) (.slice Ao79 y271.length co79) y271):=⟨(by rw [hw];exact (by exact Kd.R_mono (Kd.R_far (p:=⟨gb250,2,none⟩) (Kd.R_types HO273.out BK250.out (by decide)) (fun _ hk => hk.2) (.slice Ao79 y271.length co79)) (fun _ hk => ⟨hk.1.1.1,hk.1.2⟩)))⟩;have n3_ : Aside0 (w81.heap[gb249]? = some (.cells #[.int .i64 ((rd_T26 l0 x38_2).f0),.int .i64 ((rd_T26 l0 x38_2).f1),.slice A248_2 ((rd_T26 l0 x38_2).f2).length c248_2] 26 (0,0))):=⟨(by rw [hw];exact (by (with_reducible repeat (first | refine blk_drewN ?_ _ | refine blk_drew ?_ | refine blk_alloc ?_ _));refine blk_far ?_ NB249_250.out _;exact BK249.out))⟩;have n4_ : Aside0 (w81.heap[gb250]? = some (.cells #[.int .i64 0,.int .i64 1,.slice Ao79 y271.length co79,.slice none 0 0] 95 (0,0))):=⟨(by rw [hw];exact (by (with_reducible repeat (first | refine blk_drewN ?_ _ | refine blk_drew ?_ | refine blk_alloc ?_ _));refine blk_put (cs:=#[.int .i64 0,.int .i64 1,.slice Ao76 x251002_35.length co76,.slice none 0 0]) ?_ 2 _ rfl;exact BK250.out))⟩;have n5_ : Aside0 (Below w.heap.size w w81):=⟨(by rw [hw];exact (by repeat ((with_reducible first | exact HB.out | refine below_set ?_ GE250.out))))⟩;clear hw;clear HO_13;clear HO_251002;clear HO273;clear BK249;clear BK250;clear HB;have HO_13:=n0_;have HO_251002:=n1_;have HO273:=n2_;have BK249:=n3_;have BK250:=n4_;have HB:=n5_;clear n0_ n1_ n2_ n3_ n4_ n5_;have hcz82_0 : w81.cell? ⟨gb250,0,none⟩ = some (.int .i64 0):=(blk_cell BK250.out 0).trans rfl;have hcz82_1 : w81.cell? ⟨gb250,1,none⟩ = some (.int .i64 1):=(blk_cell BK250.out 1).trans rfl;have hcz82_2 : w81.cell? ⟨gb250,2,none⟩ = some (.slice Ao79 y271.length co79):=(blk_cell BK250.out 2).trans rfl;have hcz82_3 : w81.cell? ⟨gb250,3,none⟩ = some (.slice none 0 0):=(blk_cell BK250.out 3).trans rfl;have hfz82_0:=blk_frozen BK250.out 0;have hfz82_1:=blk_frozen BK250.out 1;have hfz82_2:=blk_frozen BK250.out 2;have hfz82_3:=blk_frozen BK250.out 3) | ((with_reducible refine gate_builtin (b:=.append) (xs:=#[.tmp 94,.tmp 96]) rfl ?_);(try (refine gate_guard (by rfl) ?_;dsimp only));at_builtin;refine Kd.N_append k95 (w0:=w) w.heap.size rfl (.tmp 94) (.tmp 96) 28 95 (.agg #[(.int .i64 0),(.int .i64 0),(.slice none 0 0),(.slice none 0 0)]) 64 rfl Try.underlying28 info95 rfl (by decide) (by omega) u13 x13_2 (⟨0,1,y271,([] : List (S26))⟩ : S95) [.int .i64 0,.int .i64 1,.slice Ao79 y271.length co79,.slice none 0 0] (fun k_ => (w.heap.size ≤ k_) ∧ some k_ ≠ (.slice Ao76 x251002_35.length co76 : Value).ownBlock ∧ k_ ≠ gb249 ∧ k_ ≠ gb250) (fun k_ => ((fun k_ => (w.heap.size ≤ k_) ∧ some k_ ≠ (.slice Ao76 x251002_35.length co76 : Value).ownBlock ∧ k_ ≠ gb249 ∧ k_ ≠ gb250)) k_ ∧ some k_ ≠ (u13 : Value).ownBlock) rfl rfl ?aP (fun _ hk => hk) ?aF ?aO ?aB ?aS ?aL ?_;(case aP => exact (k95_mkF _ _ (⟨0,1,y271,([] : List (S26))⟩ : S95) (Kd.R_reads' (Kd.R_mono (ok':=(fun k_ => ((fun k_ => (w.heap.size ≤ k_) ∧ some k_ ≠ (.slice Ao76 x251002_35.length co76 : Value).ownBlock ∧ k_ ≠ gb249 ∧ k_ ≠ gb250)) k_ ∧ some k_ ≠ (u13 : Value).ownBlock)) (Kd.R_types (Kd.R_types (Kd.R_apart' (HO273.out) (Kd.N_typed HO_13.out) (by decide)) BK249.out (by decide)) BK250.out (by decide)) (fun k_ hk => ⟨⟨hk.1.1.1.1,⟨hk.1.1.1.2,⟨hk.1.2,hk.2⟩⟩⟩,hk.1.1.2⟩))).2.1 (Kd.R_F (Kd.R_mono (ok':=(fun k_ => ((fun k_ => (w.heap.size ≤ k_) ∧ some k_ ≠ (.slice Ao76 x251002_35.length co76 : Value).ownBlock ∧ k_ ≠ gb249 ∧ k_ ≠ gb250)) k_ ∧ some k_ ≠ (u13 : Value).ownBlock)) (Kd.R_types (Kd.R_types (Kd.R_apart' (HO273.out) (Kd.N_typed HO_13.out) (by decide)) BK249.out (by decide)) BK250.out (by decide)) (fun k_ hk => ⟨⟨hk.1.1.1.1,⟨hk.1.1.1.2,⟨hk.1.2,hk.2⟩⟩⟩,hk.1.1.2⟩))) (Nat.le_refl _) (Kd.F_nil _ _ _)));(case aB => exact HB.out);(case aF => exact (fun k_ hk => ⟨(Nat.le_trans (below_size HB.out) hk),Kd.fresh' (Kd.R_lt HO_251002.out) k_ hk,Kd.freshB BK249.out k_ hk,Kd.freshB BK250.out k_ hk⟩));(case aO => exact (by exact Kd.N_mono HO_13.out (fun _ hk => ⟨hk.1,⟨hk.2.1,⟨hk.2.2.2.1,hk.2.2.2.2⟩⟩⟩)));(case aS => exact (below_size HB.out));(case aL => have:=LMc73.out;omega);intro v275 w83 ho hb hg hat;rw [← Ny274.out] at ho;have n0_:=Aside0.mk (Kd.R_over' HO_251002.out (Kd.N_typed HO_13.out) (by decide) hg);have n1_:=Aside0.mk (blk_grown BK249.out hg (Kd.N_ne HO_13.out BK249.out (by decide)));have n2_:=Aside0.mk (blk_grown BK250.out hg (Kd.N_away HO_13.out (fun _ hk => hk.2.2.2.2)));have n3_:=Aside0.mk hb;have n4_:=Aside0.mk ho;clear HO_251002;clear BK249;clear BK250;clear HB;clear HO_13;clear HO273;have HO_251002:=n0_;have BK249:=n1_;have BK250:=n2_;have HB:=n3_;have HO276:=n4_;clear n0_ n1_ n2_ n3_ n4_;clear ho hb hg hat))
                     go_roundg kj35
                     case measure => have:=HJ7.out;have:=HK2.out;have:=HJ15.out;have:=HJ24.out;have:=HJ35.out;omega
                     case rel => exact ⟨(y274),(wrap64 (x38_2 + 1)),(by rfl),H',⟨by have:=HJ7.out;have:=HK2.out;have:=HJ15.out;have:=HJ24.out;have:=HJ35.out;omega⟩,⟨by exact Kd.N_mono HO276.out (fun _ hk => hk.1)⟩,⟨HB.out⟩⟩
                    ·rw [if_neg c73] at H
                     exact absurd H (by simp)
                   ·rw [if_neg c72] at H
                    have c72b0 : ((x251002_35.length : Int) == 2) = false:=beq_eq_false_iff_ne.mpr c72
                    have c72b1 : ((x251002_35.length : Int) != 2) = true:=bne_iff_ne.mpr c72
                    by_cases c84 : x13_2.length < 2199023255552
                    ·rw [if_pos c84] at H
                     have LMc84:=Aside0.mk c84
                     clear c84
                     obtain ⟨y277,hy277⟩ : ∃ y_ : List (S95),y_ = (x13_2 ++ [(⟨0,1,x251002_35,([] : List (S26))⟩ : S95)]):=⟨_,rfl⟩
                     replace H : (track_settle.l0 kj35 l0 a1 a2 a3 a4 y277 l0 (l0.length : Int) (wrap64 (x38_2 + 1))) = some (r1,r2):=by (rw [hy277];with_reducible exact H)
                     have Ny277:=Aside0.mk hy277
                     clear hy277
                     have H':=Aside0.mk H
                     clear H
                     have hnb85:=NB250_249.out
                     have hnc85:=NB249_250.out
                     have hcz86_0 : wc.cell? ⟨gb250,0,none⟩ = some (.int .i64 0):=(blk_cell BK250.out 0).trans rfl
                     have hcz86_1 : wc.cell? ⟨gb250,1,none⟩ = some (.int .i64 1):=(blk_cell BK250.out 1).trans rfl
                     have hcz86_2 : wc.cell? ⟨gb250,2,none⟩ = some (u251002):=(blk_cell BK250.out 2).trans rfl
                     have hcz86_3 : wc.cell? ⟨gb250,3,none⟩ = some (.slice none 0 0):=(blk_cell BK250.out 3).trans rfl
                     have hfz86_0:=blk_frozen BK250.out 0
                     have hfz86_1:=blk_frozen BK250.out 1
                     have hfz86_2:=blk_frozen BK250.out 2
                     have hfz86_3:=blk_frozen BK250.out 3
                     obtain ⟨Ao87,co87,eo87⟩:=Kd.R_slice HO_251002.out
                     subst eo87
                     go_wp2_with (((with_reducible refine gate_builtin (b:=.append) (xs:=#[.tmp 94,.tmp 96]) rfl ?_);(try (refine gate_guard (by rfl) ?_;dsimp only));at_builtin;refine Kd.N_append k95 (w0:=w) w.heap.size rfl (.tmp 94) (.tmp 96) 28 95 (.agg #[(.int .i64 0),(.int .i64 0),(.slice none 0 0),(.slice none 0 0)]) 64 rfl Try.underlying28 info95 rfl (by decide) (by omega) u13 x13_2 (⟨0,1,x251002_35,([] : List (S26))⟩ : S95) [.int .i64 0,.int .i64 1,.slice Ao87 x251002_35.length co87,.slice none 0 0] (fun k_ => (w.heap.size ≤ k_) ∧ k_ ≠ gb249 ∧ k_ ≠ gb250) (fun k_ => ((fun k_ => (w.heap.size ≤ k_) ∧ k_ ≠ gb249 ∧ k_ ≠ gb250)) k_ ∧ some k_ ≠ (u13 : Value).ownBlock) rfl rfl ?aP (fun _ hk => hk) ?aF ?aO ?aB ?aS ?aL ?_;(case aP => exact (k95_mkF _ _ (⟨0,1,x251002_35,([] : List (S26))⟩ : S95) (Kd.R_reads' (Kd.R_mono (ok':=(fun k_ => ((fun k_ => (w.heap.size ≤ k_) ∧ k_ ≠ gb249 ∧ k_ ≠ gb250)) k_ ∧ some k_ ≠ (u13 : Value).ownBlock)) (Kd.R_types (Kd.R_types (Kd.R_apart' (HO_251002.out) (Kd.N_typed HO_13.out) (by decide)) BK249.out (by decide)) BK250.out (by decide)) (fun k_ hk => ⟨⟨hk.1.1.1,⟨hk.1.2,hk.2⟩⟩,hk.1.1.2⟩))).2.1 (Kd.R_F (Kd.R_mono (ok':=(fun k_ => ((fun k_ => (w.heap.size ≤ k_) ∧ k_ ≠ gb249 ∧ k_ ≠ gb250)) k_ ∧ some k_ ≠ (u13 : Value).ownBlock)) (Kd.R_types (Kd.R_types (Kd.R_apart' (HO_251002.out) (Kd.N_typed HO_13.out) (by decide)) BK249.out (by decide)) BK250.out (by decide)) (fun k_ hk => ⟨⟨hk.1.1.1,⟨hk.1.2,hk.2⟩⟩,hk.1.1.2⟩))) (Nat.le_refl _) (Kd.F_nil _ _ _)));(case aB => exact HB.out);(case aF => exact (fun k_ hk => ⟨(Nat.le_trans (below_size HB.out) hk),Kd.freshB BK249.out k_ hk,Kd.freshB BK250.out k_ hk⟩));(case aO => exact (by exact Kd.N_mono HO_13.out (fun _ hk => ⟨hk.1,⟨hk.2.2.1,hk.2.2.2⟩⟩)));(case aS => exact (below_size HB.out));(case aL => have:=LMc84.out;omega);intro v278 w88 ho hb hg hat;rw [← Ny277.out] at ho;have n0_:=Aside0.mk (blk_grown BK249.out hg (Kd.N_ne HO_13.out BK249.out (by decide)));have n1_:=Aside0.mk (blk_grown BK250.out hg (Kd.N_away HO_13.out (fun _ hk => hk.2.2.2)));have n2_:=Aside0.mk hb;have n3_:=Aside0.mk ho;clear BK249;clear BK250;clear HB;clear HO_13;clear HO_251002;have BK249:=n0_;have BK250:=n1_;have HB:=n2_;have HO279:=n3_;clear n0_ n1_ n2_ n3_;clear ho hb hg hat))
                     go_roundg kj35
                     case measure => have:=HJ7.out;have:=HK2.out;have:=HJ15.out;have:=HJ24.out;have:=HJ35.out;omega
                     case rel => exact ⟨(y277),(wrap64 (x38_2 + 1)),(by rfl),H',⟨by have:=HJ7.out;have:=HK2.out;have:=HJ15.out;have:=HJ24.out;have:=HJ35.out;omega⟩,⟨by exact Kd.N_mono HO279.out (fun _ hk => hk.1)⟩,⟨HB.out⟩⟩
                    ·rw [if_neg c84] at H
                     exact absurd H (by simp)
            ·replace c23:=Bool.eq_false_iff.mpr c23
             subst c23
             have H1 : (if x13_2.length < 2199023255552 then (track_settle.l0 kj15 l0 a1 a2 a3 a4 (x13_2 ++ [(⟨0,1,([] : List (S91)),([] : List (S26))⟩ : S95)]) l0 (l0.length : Int) (wrap64 (x38_2 + 1))) else (none)) = some (r1,r2):=by rw [if_neg (show ¬ (false = true) by decide)] at H;exact H
             clear H
             have H:=H1
             clear H1
             by_cases c89 : x13_2.length < 2199023255552
             ·rw [if_pos c89] at H
              have LMc89:=Aside0.mk c89
              clear c89
              obtain ⟨y280,hy280⟩ : ∃ y_ : List (S95),y_ = (x13_2 ++ [(⟨0,1,([] : List (S91)),([] : List (S26))⟩ : S95)]):=⟨_,rfl⟩
              replace H : (track_settle.l0 kj15 l0 a1 a2 a3 a4 y280 l0 (l0.length : Int) (wrap64 (x38_2 + 1))) = some (r1,r2):=by (rw [hy280];with_reducible exact H)
              have Ny280:=Aside0.mk hy280
              clear hy280
              have H':=Aside0.mk H
              clear H
              have hnb90:=NB250_249.out
              have hnc90:=NB249_250.out
              have hcz91_0 : wc.cell? ⟨gb250,0,none⟩ = some (.int .i64 0):=(blk_cell BK250.out 0).trans rfl
              have hcz91_1 : wc.cell? ⟨gb250,1,none⟩ = some (.int .i64 1):=(blk_cell BK250.out 1).trans rfl
              have hcz91_2 : wc.cell? ⟨gb250,2,none⟩ = some (.slice none 0 0):=(blk_cell BK250.out 2).trans rfl
              have hcz91_3 : wc.cell? ⟨gb250,3,none⟩ = some (.slice none 0 0):=(blk_cell BK250.out 3).trans rfl
              have hfz91_0:=blk_frozen BK250.out 0
              have hfz91_1:=blk_frozen BK250.out 1
              have hfz91_2:=blk_frozen BK250.out 2
              have hfz91_3:=blk_frozen BK250.out 3
              go_wp2_with (((with_reducible refine gate_builtin (b:=.append) (xs:=#[.tmp 94,.tmp 96]) rfl ?_);(try (refine gate_guard (by rfl) ?_;dsimp only));at_builtin;refine Kd.N_append k95 (w0:=w) w.heap.size rfl (.tmp 94) (.tmp 96) 28 95 (.agg #[(.int .i64 0),(.int .i64 0),(.slice none 0 0),(.slice none 0 0)]) 64 rfl Try.underlying28 info95 rfl (by decide) (by omega) u13 x13_2 (⟨0,1,([] : List (S91)),([] : List (S26))⟩ : S95) [.int .i64 0,.int .i64 1,.slice none 0 0,.slice none 0 0] (fun k_ => (w.heap.size ≤ k_) ∧ k_ ≠ gb249 ∧ k_ ≠ gb250) (fun k_ => ((fun k_ => (w.heap.size ≤ k_) ∧ k_ ≠ gb249 ∧ k_ ≠ gb250)) k_ ∧ some k_ ≠ (u13 : Value).ownBlock) rfl rfl ?aP (fun _ hk => hk) ?aF ?aO ?aB ?aS ?aL ?_;(case aP => exact (k95_mkF _ _ (⟨0,1,([] : List (S91)),([] : List (S26))⟩ : S95) (Nat.le_refl _) (Kd.F_nil _ _ _) (Nat.le_refl _) (Kd.F_nil _ _ _)));(case aB => exact HB.out);(case aF => exact (fun k_ hk => ⟨(Nat.le_trans (below_size HB.out) hk),Kd.freshB BK249.out k_ hk,Kd.freshB BK250.out k_ hk⟩));(case aO => exact HO_13.out);(case aS => exact (below_size HB.out));(case aL => have:=LMc89.out;omega);intro v281 w92 ho hb hg hat;rw [← Ny280.out] at ho;have n0_:=Aside0.mk (blk_grown BK249.out hg (Kd.N_ne HO_13.out BK249.out (by decide)));have n1_:=Aside0.mk (blk_grown BK250.out hg (Kd.N_away HO_13.out (fun _ hk => hk.2.2)));have n2_:=Aside0.mk hb;have n3_:=Aside0.mk ho;clear BK249;clear BK250;clear HB;clear HO_13;have BK249:=n0_;have BK250:=n1_;have HB:=n2_;have HO282:=n3_;clear n0_ n1_ n2_ n3_;clear ho hb hg hat))
              go_roundg kj15
              case measure => have:=HJ7.out;have:=HK2.out;have:=HJ15.out;omega
              case rel => exact ⟨(y280),(wrap64 (x38_2 + 1)),(by rfl),H',⟨by have:=HJ7.out;have:=HK2.out;have:=HJ15.out;omega⟩,⟨by exact Kd.N_mono HO282.out (fun _ hk => hk.1)⟩,⟨HB.out⟩⟩
             ·rw [if_neg c89] at H
              exact absurd H (by simp)
         ·rw [if_neg c15] at H
          exact absurd H (by simp)
        ·rw [if_neg c14] at H
         exact absurd H (by simp)
       ·rw [if_neg c13] at H
        have c13b0 : decide (x38_2 < (l0.length : Int)) = false:=decide_eq_false c13
        clear c13
        replace H:=Option.bind_eq_some_iff.mp H
        obtain ⟨⟨t244,t247⟩,A930,H⟩:=H
        replace H : (some (t244,t247)) = some (r1,r2):=H
        have A93:=Aside0.mk A930
        clear A930
        simp only [Option.some.injEq,Prod.mk.injEq] at H
        obtain ⟨rfl,rfl⟩:=H
        obtain ⟨Ao94,co94,eo94⟩:=Kd.N_slice HO_13.out
        subst eo94
        go_wp2_with (((with_reducible refine gate_callee (f:=85) rfl ?_);refine goesL_ (some 100) rfl rfl Try.func85 (by kernel_rfl) rfl #[.slice Ao94 x13_2.length co94] rfl (by (try simp only [List.map_toArray,List.map_cons,List.map_nil]);rfl) ?_;(with_reducible refine (delta_Tidy.calls _ _ x13_2 t244 t247 _ ?side1 ?side2 A93.out).mono ?_);(case side1 => repeat (exact (Kd.N_reads' HO_13.out).2.2));(case side2 => exact (Kd.N_reads' HO_13.out).2.1);rintro e w95 ⟨v245,rfl,ho0,hb⟩;refine ⟨_,rfl,?_⟩;have n0_:=Aside0.mk (Kd.N_elder' HO_13.out (Kd.N_base ho0) hb);have n1_:=Aside0.mk (Kd.N_lower (Kd.N_mono (ok':=fun k_ => (w.heap.size ≤ k_) ∧ some k_ ≠ (.slice Ao94 x13_2.length co94 : Value).ownBlock) ho0 (fun k_ hk_ => ⟨(Nat.le_trans (below_size (by with_reducible exact HB.out)) hk_),(Kd.fresh' (Kd.N_lt HO_13.out) k_ hk_)⟩)) (below_size (by with_reducible exact HB.out)));have n2_:=Aside0.mk (below_step (by with_reducible exact HB.out) hb);clear HO_13;clear HB;have HO_13:=n0_;have HO246:=n1_;have HB:=n2_;clear n0_ n1_ n2_;(try clear hb);(try clear hb2);(try clear hk);(try clear hi);(try clear ho0)))
        go_ret2
        exact ⟨_,by rfl,by exact Kd.N_mono HO246.out (fun _ hk => hk.1),HB.out⟩
 ·rw [if_neg c7] at H
  have c7b0 : (t243 == 0) = false:=beq_eq_false_iff_ne.mpr c7
  have c7b1 : (t243 != 0) = true:=bne_iff_ne.mpr c7
  simp only [Option.some.injEq,Prod.mk.injEq] at H
  obtain ⟨rfl,rfl⟩:=H
  go_enter Try.func49,Try.ntmps49
  go_wp2_with (((with_reducible refine gate_callee (f:=83) rfl ?_);refine goesL_ (some 19) rfl rfl Try.func83 (by kernel_rfl) rfl #[.slice A0 l0.length c0,.bool true] rfl (by (try simp only [List.map_toArray,List.map_cons,List.map_nil]);rfl) ?_;(with_reducible refine (flow_Check.calls k _ _ l0 true t243 _ ?side1 ?side2 A6.out).mono ?_);(case side1 => repeat (exact HR0.out));(case side2 => exact HC0.out);rintro e w96 ⟨rfl,hb⟩;refine ⟨_,rfl,?_⟩;replace HB:=Aside0.mk (below_step (by with_reducible exact HB.out) hb);(try clear hb);(try clear hb2);(try clear hk);(try clear hi)))
  go_ret2
  exact ⟨_,by rfl,by exact Kd.N_nil _ _ _ _ _,HB.out⟩
end
noncomputable section
def track_Accept.f (k : Nat) (l0 : List (S26)) (a1 : Int) (a2 : Int) : Option ((List (S95)) × Int):=(track_settle.f k l0 a1 a2 (⟨#[97,100,100]⟩ : ByteArray) (⟨#[99,117,116]⟩ : ByteArray)).bind fun bt283 => (some (bt283.1,bt283.2))
set_option maxHeartbeats 8000000 in
set_option maxRecDepth 100000 in
theorem track_Accept.calls (k : Nat) (A0 : Option Addr) (c0 : Nat) (l0 : List (S26)) (a1 : Int) (a2 : Int) (r1 : List (S95)) (r2 : Int) (w : World) (hr0 : Kd.C k26 w A0 l0.length l0) (hc0 : l0.length ≤ c0) (h : track_Accept.f k l0 a1 a2 = some (r1,r2)) :
 Calls Try.prog 15 #[.slice A0 l0.length c0,.int .i64 a1,.int .i64 a2] w fun e w' => ∃ v0_ : Value,e = .returned (.tuple #[v0_,.int .i64 r2]) ∧ Kd.N k95 95 w' w.heap.size (fun k_ => (w.heap.size ≤ k_)) v0_ r1 ∧ Below w.heap.size w w':=by
 have HR0:=Aside0.mk hr0
 have HC0:=Aside0.mk hc0
 clear hr0 hc0
 have HB:=Aside0.mk (Below.refl w.heap.size w)
 have H : ((track_settle.f k l0 a1 a2 (⟨#[97,100,100]⟩ : ByteArray) (⟨#[99,117,116]⟩ : ByteArray)).bind fun bt283 => (some (bt283.1,bt283.2))) = some (r1,r2):=h
 clear h
 replace H:=Option.bind_eq_some_iff.mp H
 obtain ⟨⟨t283,t286⟩,A40,H⟩:=H
 replace H : (some (t283,t286)) = some (r1,r2):=H
 have A4:=Aside0.mk A40
 clear A40
 simp only [Option.some.injEq,Prod.mk.injEq] at H
 obtain ⟨rfl,rfl⟩:=H
 go_enter Try.func15,Try.ntmps15
 go_wp2_with (((with_reducible refine gate_callee (f:=49) rfl ?_);refine goesL_ (some 11) rfl rfl Try.func49 (by kernel_rfl) rfl #[.slice A0 l0.length c0,.int .i64 a1,.int .i64 a2,.string (⟨#[97,100,100]⟩ : ByteArray),.string (⟨#[99,117,116]⟩ : ByteArray)] rfl (by (try simp only [List.map_toArray,List.map_cons,List.map_nil]);rfl) ?_;(with_reducible refine (track_settle.calls k _ _ l0 a1 a2 (⟨#[97,100,100]⟩ : ByteArray) (⟨#[99,117,116]⟩ : ByteArray) t283 t286 _ ?side1 ?side2 A4.out).mono ?_);(case side1 => repeat (exact HR0.out));(case side2 => exact HC0.out);rintro e w5 ⟨v284,rfl,ho0,hb⟩;refine ⟨_,rfl,?_⟩;have n0_:=Aside0.mk (Kd.N_lower (Kd.N_mono (ok':=fun k_ => (w.heap.size ≤ k_)) ho0 (fun k_ hk_ => (Nat.le_trans (below_size (by with_reducible exact HB.out)) hk_))) (below_size (by with_reducible exact HB.out)));have n1_:=Aside0.mk (below_step (by with_reducible exact HB.out) hb);clear HB;have HO285:=n0_;have HB:=n1_;clear n0_ n1_;(try clear hb);(try clear hb2);(try clear hk);(try clear hi);(try clear ho0)))
 go_ret2
 exact ⟨_,by rfl,by exact HO285.out,HB.out⟩
def track_Reject.f (k : Nat) (l0 : List (S26)) (a1 : Int) (a2 : Int) : Option ((List (S95)) × Int):=(track_settle.f k l0 a1 a2 (⟨#[99,117,116]⟩ : ByteArray) (⟨#[97,100,100]⟩ : ByteArray)).bind fun bt287 => (some (bt287.1,bt287.2))
set_option maxHeartbeats 8000000 in
set_option maxRecDepth 100000 in
theorem track_Reject.calls (k : Nat) (A0 : Option Addr) (c0 : Nat) (l0 : List (S26)) (a1 : Int) (a2 : Int) (r1 : List (S95)) (r2 : Int) (w : World) (hr0 : Kd.C k26 w A0 l0.length l0) (hc0 : l0.length ≤ c0) (h : track_Reject.f k l0 a1 a2 = some (r1,r2)) :
 Calls Try.prog 16 #[.slice A0 l0.length c0,.int .i64 a1,.int .i64 a2] w fun e w' => ∃ v0_ : Value,e = .returned (.tuple #[v0_,.int .i64 r2]) ∧ Kd.N k95 95 w' w.heap.size (fun k_ => (w.heap.size ≤ k_)) v0_ r1 ∧ Below w.heap.size w w':=by
 have HR0:=Aside0.mk hr0
 have HC0:=Aside0.mk hc0
 clear hr0 hc0
 have HB:=Aside0.mk (Below.refl w.heap.size w)
 have H : ((track_settle.f k l0 a1 a2 (⟨#[99,117,116]⟩ : ByteArray) (⟨#[97,100,100]⟩ : ByteArray)).bind fun bt287 => (some (bt287.1,bt287.2))) = some (r1,r2):=h
 clear h
 replace H:=Option.bind_eq_some_iff.mp H
 obtain ⟨⟨t287,t290⟩,A40,H⟩:=H
 replace H : (some (t287,t290)) = some (r1,r2):=H
 have A4:=Aside0.mk A40
 clear A40
 simp only [Option.some.injEq,Prod.mk.injEq] at H
 obtain ⟨rfl,rfl⟩:=H
 go_enter Try.func16,Try.ntmps16
 go_wp2_with (((with_reducible refine gate_callee (f:=49) rfl ?_);refine goesL_ (some 11) rfl rfl Try.func49 (by kernel_rfl) rfl #[.slice A0 l0.length c0,.int .i64 a1,.int .i64 a2,.string (⟨#[99,117,116]⟩ : ByteArray),.string (⟨#[97,100,100]⟩ : ByteArray)] rfl (by (try simp only [List.map_toArray,List.map_cons,List.map_nil]);rfl) ?_;(with_reducible refine (track_settle.calls k _ _ l0 a1 a2 (⟨#[99,117,116]⟩ : ByteArray) (⟨#[97,100,100]⟩ : ByteArray) t287 t290 _ ?side1 ?side2 A4.out).mono ?_);(case side1 => repeat (exact HR0.out));(case side2 => exact HC0.out);rintro e w5 ⟨v288,rfl,ho0,hb⟩;refine ⟨_,rfl,?_⟩;have n0_:=Aside0.mk (Kd.N_lower (Kd.N_mono (ok':=fun k_ => (w.heap.size ≤ k_)) ho0 (fun k_ hk_ => (Nat.le_trans (below_size (by with_reducible exact HB.out)) hk_))) (below_size (by with_reducible exact HB.out)));have n1_:=Aside0.mk (below_step (by with_reducible exact HB.out) hb);clear HB;have HO289:=n0_;have HB:=n1_;clear n0_ n1_;(try clear hb);(try clear hb2);(try clear hk);(try clear hi);(try clear ho0)))
 go_ret2
 exact ⟨_,by rfl,by exact HO289.out,HB.out⟩
mutual
def chancerykeep1_TrackAcceptShows.j0 : Nat → List (S26) → Bool → Option (Bool)
 | 0,_,_ => none
 | k + 1,x0,x14 => if x14 = true then (some false) else (chancerykeep1_TrackAcceptShows.l0 k x0 x0 (x0.length : Int) 0)
def chancerykeep1_TrackAcceptShows.l0 : Nat → List (S26) → List (S26) → Int → Int → Option (Bool)
 | 0,_,_,_,_ => none
 | k + 1,x0,x15,x16,x17 => if x17 < x16 then (if 0 ≤ x17 then (if x17 < (x15.length : Int) then ((chanceryref1_Has.f k ((rd_T26 x15 x17).f2) (⟨#[104,105,100,100,101,110]⟩ : ByteArray)).bind fun t415 => (if t415 = true then (some true) else (chancerykeep1_TrackAcceptShows.l0 k x0 x15 x16 (wrap64 (x17 + 1))))) else (none)) else (none)) else ((track_Accept.f k x0 0 (x0.length : Int)).bind fun bt416 => ((track_Reject.f k x0 0 (x0.length : Int)).bind fun bt420 => ((chanceryref1_FlowError.f k x0 true).bind fun t424 => (if t424 = 0 then (if bt416.2 = 0 then (chancerykeep1_TrackAcceptShows.j2 k x0 bt416.1 bt420.1 (bt420.2 != 0)) else (chancerykeep1_TrackAcceptShows.j2 k x0 bt416.1 bt420.1 true)) else (if bt416.2 = 0 then (some false) else (some (bt420.2 == bt416.2)))))))
def chancerykeep1_TrackAcceptShows.j2 : Nat → List (S26) → List (S95) → List (S95) → Bool → Option (Bool)
 | 0,_,_,_,_ => none
 | k + 1,x0,x5,x7,x54 => if x54 = true then (some false) else ((chancerykeep1_shows.f x0 x5 0).bind fun t425 => (if t425 = true then ((chancerykeep1_shows.f x0 x7 1).bind fun t426 => (some t426)) else (some false)))
end
def chancerykeep1_TrackAcceptShows.f (k : Nat) (l0 : List (S26)) : Option (Bool):=(chancerykeep1_tracks.f k).bind fun t411 => (if t411 = true then ((chancerykeep1_deltas.f).bind fun t412 => (chancerykeep1_TrackAcceptShows.j0 k l0 (!t412))) else (chancerykeep1_TrackAcceptShows.j0 k l0 true))
set_option maxHeartbeats 8000000 in
set_option maxRecDepth 100000 in
theorem chancerykeep1_TrackAcceptShows.calls (k : Nat) (A0 : Option Addr) (c0 : Nat) (l0 : List (S26)) (r : Bool) (w : World) (hr0 : Kd.C k26 w A0 l0.length l0) (hc0 : l0.length ≤ c0) (h : chancerykeep1_TrackAcceptShows.f k l0 = some r) :
 Calls Try.prog 3 #[.slice A0 l0.length c0] w fun e w' => e = .returned (.bool r) ∧ Below w.heap.size w w':=by
 have hu26:=Try.underlying26
 have HR0:=Aside0.mk hr0
 have HC0:=Aside0.mk hc0
 clear hr0 hc0
 have HB:=Aside0.mk (Below.refl w.heap.size w)
 have H : ((chancerykeep1_tracks.f k).bind fun t411 => (if t411 = true then ((chancerykeep1_deltas.f).bind fun t412 => (chancerykeep1_TrackAcceptShows.j0 k l0 (!t412))) else (chancerykeep1_TrackAcceptShows.j0 k l0 true))) = some r:=h
 clear h
 have HC2:=Aside0.mk H
 clear H
 go_enter Try.func3,Try.ntmps3
 go_upto_region 1 with (fail)
 go_cut [14] (fun v14 wc => ∃ (kq : Nat) (x14_1 : Bool),v14 = .bool x14_1 ∧ Aside0 (chancerykeep1_TrackAcceptShows.j0 kq l0 x14_1 = some r) ∧ Aside0 (kq ≤ k) ∧ Aside0 (Below w.heap.size w wc))
 case first =>
  have H:=HC2.out
  clear HC2
  replace H:=Option.bind_eq_some_iff.mp H
  obtain ⟨t411,A30,H⟩:=H
  replace H : (if t411 = true then ((chancerykeep1_deltas.f).bind fun t412 => (chancerykeep1_TrackAcceptShows.j0 k l0 (!t412))) else (chancerykeep1_TrackAcceptShows.j0 k l0 true)) = some r:=H
  have A3:=Aside0.mk A30
  clear A30
  by_cases c4 : t411 = true
  ·subst c4
   have H1 : ((chancerykeep1_deltas.f).bind fun t412 => (chancerykeep1_TrackAcceptShows.j0 k l0 (!t412))) = some r:=by rw [if_pos rfl] at H;exact H
   clear H
   have H:=H1
   clear H1
   replace H:=Option.bind_eq_some_iff.mp H
   obtain ⟨t412,A50,H⟩:=H
   replace H : (chancerykeep1_TrackAcceptShows.j0 k l0 (!t412)) = some r:=H
   have A5:=Aside0.mk A50
   clear A50
   have H':=Aside0.mk H
   clear H
   go_wp2_with (first | ((with_reducible refine gate_callee (f:=12) rfl ?_);refine goesL_ (some 9) rfl rfl Try.func12 (by kernel_rfl) rfl #[] rfl (by (try simp only [List.map_toArray,List.map_cons,List.map_nil]);done) ?_;(with_reducible refine (chancerykeep1_tracks.calls k  true _ A3.out).mono ?_);rintro e w6 ⟨rfl,hb⟩;refine ⟨_,rfl,?_⟩;replace HB:=Aside0.mk (below_step (by with_reducible exact HB.out) hb);(try clear hb);(try clear hb2);(try clear hk);(try clear hi)) | (go_at_call 13;(with_reducible refine (chancerykeep1_deltas.calls  t412 _ A5.out).mono ?_);rintro e w7 ⟨rfl,hb⟩;replace HB:=Aside0.mk (below_step (by with_reducible exact HB.out) hb);(try clear hb);(try clear hb2);(try clear hk);(try clear hi)))
   go_meet
   case rel => exact ⟨_,(!t412),(by rfl),H',⟨by omega⟩,⟨HB.out⟩⟩
  ·replace c4:=Bool.eq_false_iff.mpr c4
   subst c4
   have H1 : (chancerykeep1_TrackAcceptShows.j0 k l0 true) = some r:=by rw [if_neg (show ¬ (false = true) by decide)] at H;exact H
   clear H
   have H:=H1
   clear H1
   have H':=Aside0.mk H
   clear H
   go_wp2_with (((with_reducible refine gate_callee (f:=12) rfl ?_);refine goesL_ (some 9) rfl rfl Try.func12 (by kernel_rfl) rfl #[] rfl (by (try simp only [List.map_toArray,List.map_cons,List.map_nil]);done) ?_;(with_reducible refine (chancerykeep1_tracks.calls k  false _ A3.out).mono ?_);rintro e w8 ⟨rfl,hb⟩;refine ⟨_,rfl,?_⟩;replace HB:=Aside0.mk (below_step (by with_reducible exact HB.out) hb);(try clear hb);(try clear hb2);(try clear hk);(try clear hi)))
   go_meet
   case rel => exact ⟨_,(true),(by rfl),H',⟨by omega⟩,⟨HB.out⟩⟩
 case rest =>
  clear HC2
  obtain ⟨kq,x14_1,rfl,HA,HJ1,HB⟩:=hcut
  cases kq with
  | zero => exact absurd HA.out (by simp [chancerykeep1_TrackAcceptShows.j0])
  | succ kj1 =>
   have H:=HA.out
   clear HA
   simp only [chancerykeep1_TrackAcceptShows.j0] at H
   by_cases c9 : x14_1 = true
   ·subst c9
    have H1 : (some false) = some r:=by rw [if_pos rfl] at H;exact H
    clear H
    have H:=H1
    clear H1
    obtain rfl:=Option.some.inj H
    go_wp2
    go_ret
    exact ⟨by rfl,HB.out⟩
   ·replace c9:=Bool.eq_false_iff.mpr c9
    subst c9
    have H1 : (chancerykeep1_TrackAcceptShows.l0 kj1 l0 l0 (l0.length : Int) 0) = some r:=by rw [if_neg (show ¬ (false = true) by decide)] at H;exact H
    clear H
    have H:=H1
    clear H1
    have H':=Aside0.mk H
    clear H
    go_wp2
    go_loopg [17] kj1 (fun kq v17 w' => ∃ (x17_2 : Int),v17 = .int .i64 x17_2 ∧ Aside0 (chancerykeep1_TrackAcceptShows.l0 kq l0 l0 (l0.length : Int) x17_2 = some r) ∧ Aside0 (kq ≤ kj1) ∧ Aside0 (Below w.heap.size w w'))
    case atStart => exact ⟨(0),(by rfl),H',⟨Nat.le_refl _⟩,⟨HB.out⟩⟩
    case round =>
     clear H'
     obtain ⟨x17_2,rfl,HA,HK2,HB⟩:=hrel
     cases gk with
     | zero => exact absurd HA.out (by simp [chancerykeep1_TrackAcceptShows.l0])
     | succ k2 =>
      have H:=HA.out
      clear HA
      simp only [chancerykeep1_TrackAcceptShows.l0] at H
      by_cases c10 : x17_2 < (l0.length : Int)
      ·rw [if_pos c10] at H
       have c10b0 : decide (x17_2 < (l0.length : Int)) = true:=decide_eq_true c10
       clear c10
       by_cases c11 : 0 ≤ x17_2
       ·rw [if_pos c11] at H
        have c11b0 : decide (0 ≤ x17_2) = true:=decide_eq_true c11
        clear c11
        by_cases c12 : x17_2 < (l0.length : Int)
        ·rw [if_pos c12] at H
         have c12b0 : decide (x17_2 < (l0.length : Int)) = true:=decide_eq_true c12
         clear c12
         replace H:=Option.bind_eq_some_iff.mp H
         obtain ⟨t415,A130,H⟩:=H
         replace H : (if t415 = true then (some true) else (chancerykeep1_TrackAcceptShows.l0 k2 l0 l0 (l0.length : Int) (wrap64 (x17_2 + 1)))) = some r:=H
         have A13:=Aside0.mk A130
         clear A130
         by_cases c14 : t415 = true
         ·subst c14
          have H1 : (some true) = some r:=by rw [if_pos rfl] at H;exact H
          clear H
          have H:=H1
          clear H1
          obtain rfl:=Option.some.inj H
          have p413 : 0 ≤ (x17_2 : Int):=of_decide_eq_true (by assumption)
          have q413 : x17_2 < (l0.length : Int):=of_decide_eq_true (by assumption)
          obtain ⟨ad413,A413_2,c413_2,e413,hx413_0,hx413_1,hx413_2,hl413_2,hi413_2⟩:=at_T26 HR0.out x17_2 p413 q413
          cases e413
          replace hx413_0:=(HB.out.cell (World.block_lt_of_cell? w _ hx413_0)).trans hx413_0
          replace hx413_1:=(HB.out.cell (World.block_lt_of_cell? w _ hx413_1)).trans hx413_1
          replace hx413_2:=(HB.out.cell (World.block_lt_of_cell? w _ hx413_2)).trans hx413_2
          have HR413_2:=Aside0.mk hi413_2
          have HC413_2:=Aside0.mk hl413_2
          clear hi413_2 hl413_2
          replace p413:=eq_true p413
          replace q413:=eq_true q413
          go_wp2_with (first | ((with_reducible refine gate_dst (N:=4) rfl ?_);refine box_event ?hg (N:=4) ?hd (cs:=#[.int .i64 0,.int .i64 0,.slice none 0 0]) (t:=26) ?hr ?_;(case hd => rfl);(case hg => rfl);(case hr => (go_simp;done));intro gb414 hg w15 hbox hb;have n0_:=Aside0.mk (below_step (by with_reducible exact HB.out) hb);have n1_:=Aside0.mk hbox;have n2_:=Aside0.mk ((by rw [hg];exact (below_size (by with_reducible exact HB.out)) : w.heap.size ≤ gb414));have n3_:=Aside0.mk ((by rw [hg];exact (below_size (by with_reducible exact HB.out)) : w.heap.size ≤ gb414));clear HB;have HB:=n0_;have BK414:=n1_;have GW414:=n2_;have GE414:=n3_;clear n0_ n1_ n2_ n3_;clear hb hbox hg;have hcz16_0 : w15.cell? ⟨gb414,0,none⟩ = some (.int .i64 0):=(blk_cell BK414.out 0).trans rfl;have hcz16_1 : w15.cell? ⟨gb414,1,none⟩ = some (.int .i64 0):=(blk_cell BK414.out 1).trans rfl;have hcz16_2 : w15.cell? ⟨gb414,2,none⟩ = some (.slice none 0 0):=(blk_cell BK414.out 2).trans rfl;have hfz16_0:=blk_frozen BK414.out 0;have hfz16_1:=blk_frozen BK414.out 1;have hfz16_2:=blk_frozen BK414.out 2) | ((with_reducible refine gate_callee (f:=14) rfl ?_);refine goesL_ (some 23) rfl rfl Try.func14 (by kernel_rfl) rfl #[.slice A413_2 ((rd_T26 l0 x17_2).f2).length c413_2,.string (⟨#[104,105,100,100,101,110]⟩ : ByteArray)] rfl (by (try simp only [List.map_toArray,List.map_cons,List.map_nil]);rfl) ?_;(with_reducible refine (chanceryref1_Has.calls k2 _ _ ((rd_T26 l0 x17_2).f2) (⟨#[104,105,100,100,101,110]⟩ : ByteArray) true _ ?side1 ?side2 A13.out).mono ?_);(case side1 => exact Kd.C_below HR413_2.out (by repeat ((with_reducible first | exact HB.out | refine below_set ?_ GE414.out))));(case side2 => exact HC413_2.out);rintro e w' ⟨rfl,⟨nd,rfl⟩⟩;refine ⟨_,rfl,?_⟩))
          go_ret
          exact ⟨by rfl,by repeat ((with_reducible first | exact HB.out | apply pw_below_drewN | refine below_set ?_ GE414.out))⟩
         ·replace c14:=Bool.eq_false_iff.mpr c14
          subst c14
          have H1 : (chancerykeep1_TrackAcceptShows.l0 k2 l0 l0 (l0.length : Int) (wrap64 (x17_2 + 1))) = some r:=by rw [if_neg (show ¬ (false = true) by decide)] at H;exact H
          clear H
          have H:=H1
          clear H1
          have H':=Aside0.mk H
          clear H
          have p413 : 0 ≤ (x17_2 : Int):=of_decide_eq_true (by assumption)
          have q413 : x17_2 < (l0.length : Int):=of_decide_eq_true (by assumption)
          obtain ⟨ad413,A413_2,c413_2,e413,hx413_0,hx413_1,hx413_2,hl413_2,hi413_2⟩:=at_T26 HR0.out x17_2 p413 q413
          cases e413
          replace hx413_0:=(HB.out.cell (World.block_lt_of_cell? w _ hx413_0)).trans hx413_0
          replace hx413_1:=(HB.out.cell (World.block_lt_of_cell? w _ hx413_1)).trans hx413_1
          replace hx413_2:=(HB.out.cell (World.block_lt_of_cell? w _ hx413_2)).trans hx413_2
          have HR413_2:=Aside0.mk hi413_2
          have HC413_2:=Aside0.mk hl413_2
          clear hi413_2 hl413_2
          replace p413:=eq_true p413
          replace q413:=eq_true q413
          go_wp2_with (first | ((with_reducible refine gate_dst (N:=4) rfl ?_);refine box_event ?hg (N:=4) ?hd (cs:=#[.int .i64 0,.int .i64 0,.slice none 0 0]) (t:=26) ?hr ?_;(case hd => rfl);(case hg => rfl);(case hr => (go_simp;done));intro gb414 hg w17 hbox hb;have n0_:=Aside0.mk (below_step (by with_reducible exact HB.out) hb);have n1_:=Aside0.mk hbox;have n2_:=Aside0.mk ((by rw [hg];exact (below_size (by with_reducible exact HB.out)) : w.heap.size ≤ gb414));have n3_:=Aside0.mk ((by rw [hg];exact (below_size (by with_reducible exact HB.out)) : w.heap.size ≤ gb414));clear HB;have HB:=n0_;have BK414:=n1_;have GW414:=n2_;have GE414:=n3_;clear n0_ n1_ n2_ n3_;clear hb hbox hg;have hcz18_0 : w17.cell? ⟨gb414,0,none⟩ = some (.int .i64 0):=(blk_cell BK414.out 0).trans rfl;have hcz18_1 : w17.cell? ⟨gb414,1,none⟩ = some (.int .i64 0):=(blk_cell BK414.out 1).trans rfl;have hcz18_2 : w17.cell? ⟨gb414,2,none⟩ = some (.slice none 0 0):=(blk_cell BK414.out 2).trans rfl;have hfz18_0:=blk_frozen BK414.out 0;have hfz18_1:=blk_frozen BK414.out 1;have hfz18_2:=blk_frozen BK414.out 2) | ((with_reducible refine gate_callee (f:=14) rfl ?_);refine goesL_ (some 23) rfl rfl Try.func14 (by kernel_rfl) rfl #[.slice A413_2 ((rd_T26 l0 x17_2).f2).length c413_2,.string (⟨#[104,105,100,100,101,110]⟩ : ByteArray)] rfl (by (try simp only [List.map_toArray,List.map_cons,List.map_nil]);rfl) ?_;(with_reducible refine (chanceryref1_Has.calls k2 _ _ ((rd_T26 l0 x17_2).f2) (⟨#[104,105,100,100,101,110]⟩ : ByteArray) false _ ?side1 ?side2 A13.out).mono ?_);(case side1 => exact Kd.C_below HR413_2.out (by repeat ((with_reducible first | exact HB.out | refine below_set ?_ GE414.out))));(case side2 => exact HC413_2.out);rintro e w' ⟨rfl,⟨nd,rfl⟩⟩;refine ⟨_,rfl,?_⟩))
          go_roundg k2
          case measure => have:=HJ1.out;have:=HK2.out;omega
          case rel => exact ⟨(wrap64 (x17_2 + 1)),(by rfl),H',⟨by have:=HJ1.out;have:=HK2.out;omega⟩,⟨by repeat ((with_reducible first | exact HB.out | apply pw_below_drewN | refine below_set ?_ GE414.out))⟩⟩
        ·rw [if_neg c12] at H
         exact absurd H (by simp)
       ·rw [if_neg c11] at H
        exact absurd H (by simp)
      ·rw [if_neg c10] at H
       have c10b0 : decide (x17_2 < (l0.length : Int)) = false:=decide_eq_false c10
       clear c10
       replace H:=Option.bind_eq_some_iff.mp H
       obtain ⟨⟨t416,t419⟩,A190,H⟩:=H
       replace H : ((track_Reject.f k2 l0 0 (l0.length : Int)).bind fun bt420 => ((chanceryref1_FlowError.f k2 l0 true).bind fun t424 => (if t424 = 0 then (if t419 = 0 then (chancerykeep1_TrackAcceptShows.j2 k2 l0 t416 bt420.1 (bt420.2 != 0)) else (chancerykeep1_TrackAcceptShows.j2 k2 l0 t416 bt420.1 true)) else (if t419 = 0 then (some false) else (some (bt420.2 == t419)))))) = some r:=H
       have A19:=Aside0.mk A190
       clear A190
       replace H:=Option.bind_eq_some_iff.mp H
       obtain ⟨⟨t420,t423⟩,A200,H⟩:=H
       replace H : ((chanceryref1_FlowError.f k2 l0 true).bind fun t424 => (if t424 = 0 then (if t419 = 0 then (chancerykeep1_TrackAcceptShows.j2 k2 l0 t416 t420 (t423 != 0)) else (chancerykeep1_TrackAcceptShows.j2 k2 l0 t416 t420 true)) else (if t419 = 0 then (some false) else (some (t423 == t419))))) = some r:=H
       have A20:=Aside0.mk A200
       clear A200
       replace H:=Option.bind_eq_some_iff.mp H
       obtain ⟨t424,A210,H⟩:=H
       replace H : (if t424 = 0 then (if t419 = 0 then (chancerykeep1_TrackAcceptShows.j2 k2 l0 t416 t420 (t423 != 0)) else (chancerykeep1_TrackAcceptShows.j2 k2 l0 t416 t420 true)) else (if t419 = 0 then (some false) else (some (t423 == t419)))) = some r:=H
       have A21:=Aside0.mk A210
       clear A210
       by_cases c22 : t424 = 0
       ·rw [if_pos c22] at H
        have c22b0 : (t424 == 0) = true:=beq_iff_eq.mpr c22
        have c22b1 : (t424 != 0) = false:=bne_eq_false_iff_eq.mpr c22
        clear c22
        have HC23:=Aside0.mk H
        clear H
        go_upto_region 13 with (first | ((with_reducible refine gate_callee (f:=15) rfl ?_);refine goesL_ (some 29) rfl rfl Try.func15 (by kernel_rfl) rfl #[.slice A0 l0.length c0,.int .i64 0,.int .i64 (l0.length : Int)] rfl (by (try simp only [List.map_toArray,List.map_cons,List.map_nil]);rfl) ?_;(with_reducible refine (track_Accept.calls k2 _ _ l0 0 (l0.length : Int) t416 t419 _ ?side1 ?side2 A19.out).mono ?_);(case side1 => repeat (exact (Kd.C_below HR0.out HB.out)));(case side2 => exact HC0.out);rintro e w24 ⟨v417,rfl,ho0,hb⟩;refine ⟨_,rfl,?_⟩;have n0_:=Aside0.mk (Kd.N_lower (Kd.N_mono (ok':=fun k_ => True) ho0 (fun k_ hk_ => trivial)) (below_size (by with_reducible exact HB.out)));have n1_:=Aside0.mk (below_step (by with_reducible exact HB.out) hb);clear HB;have HO418:=n0_;have HB:=n1_;clear n0_ n1_;(try clear hb);(try clear hb2);(try clear hk);(try clear hi);(try clear ho0)) | ((with_reducible refine gate_callee (f:=16) rfl ?_);refine goesL_ (some 36) rfl rfl Try.func16 (by kernel_rfl) rfl #[.slice A0 l0.length c0,.int .i64 0,.int .i64 (l0.length : Int)] rfl (by (try simp only [List.map_toArray,List.map_cons,List.map_nil]);rfl) ?_;(with_reducible refine (track_Reject.calls k2 _ _ l0 0 (l0.length : Int) t420 t423 _ ?side1 ?side2 A20.out).mono ?_);(case side1 => repeat (exact (Kd.C_below HR0.out HB.out)));(case side2 => exact HC0.out);rintro e w25 ⟨v421,rfl,ho0,hb⟩;refine ⟨_,rfl,?_⟩;have n0_:=Aside0.mk (Kd.N_elder' HO418.out (Kd.N_base ho0) hb);have n1_:=Aside0.mk (Kd.N_lower (Kd.N_mono (ok':=fun k_ => some k_ ≠ (v417 : Value).ownBlock) ho0 (fun k_ hk_ => (Kd.fresh' (Kd.N_lt HO418.out) k_ hk_))) (below_size (by with_reducible exact HB.out)));have n2_:=Aside0.mk (below_step (by with_reducible exact HB.out) hb);clear HO418;clear HB;have HO418:=n0_;have HO422:=n1_;have HB:=n2_;clear n0_ n1_ n2_;(try clear hb);(try clear hb2);(try clear hk);(try clear hi);(try clear ho0)) | ((with_reducible refine gate_callee (f:=17) rfl ?_);refine goesL_ (some 40) rfl rfl Try.func17 (by kernel_rfl) rfl #[.slice A0 l0.length c0,.bool true] rfl (by (try simp only [List.map_toArray,List.map_cons,List.map_nil]);rfl) ?_;(with_reducible refine (chanceryref1_FlowError.calls k2 _ _ l0 true t424 _ ?side1 ?side2 A21.out).mono ?_);(case side1 => repeat (exact (Kd.C_below HR0.out HB.out)));(case side2 => exact HC0.out);rintro e w26 ⟨rfl,hb⟩;refine ⟨_,rfl,?_⟩;have n0_:=Aside0.mk (Kd.N_below HO418.out hb);have n1_:=Aside0.mk (Kd.N_below HO422.out hb);have n2_:=Aside0.mk (below_step (by with_reducible exact HB.out) hb);clear HO418;clear HO422;clear HB;have HO418:=n0_;have HO422:=n1_;have HB:=n2_;clear n0_ n1_ n2_;(try clear hb);(try clear hb2);(try clear hk);(try clear hi)))
        (try simp only [Act.put,List.setIfInBounds_toArray,List.set_cons_zero,List.set_cons_succ])
        go_cut [54] (fun v54 wc => ∃ (kq : Nat) (x54_22 : Bool),v54 = .bool x54_22 ∧ Aside0 (chancerykeep1_TrackAcceptShows.j2 kq l0 t416 t420 x54_22 = some r) ∧ Aside0 (kq ≤ k2) ∧ Aside0 (Kd.N k95 95 wc w.heap.size (fun k_ => some k_ ≠ (v421 : Value).ownBlock) v417 t416) ∧ Aside0 (Kd.N k95 95 wc w.heap.size (fun k_ => some k_ ≠ (v417 : Value).ownBlock) v421 t420) ∧ Aside0 (Below w.heap.size w wc))
        case first =>
         have H:=HC23.out
         clear HC23
         by_cases c27 : t419 = 0
         ·rw [if_pos c27] at H
          have c27b0 : (t419 == 0) = true:=beq_iff_eq.mpr c27
          have c27b1 : (t419 != 0) = false:=bne_eq_false_iff_eq.mpr c27
          clear c27
          (skip)
          have H':=Aside0.mk H
          clear H
          go_wp2
          go_meet
          case rel => exact ⟨_,((t423 != 0)),(by rfl),H',⟨by have:=HJ1.out;have:=HK2.out;omega⟩,⟨by exact Kd.N_mono HO418.out (fun _ hk => hk.2)⟩,⟨by exact HO422.out⟩,⟨HB.out⟩⟩
         ·rw [if_neg c27] at H
          have c27b0 : (t419 == 0) = false:=beq_eq_false_iff_ne.mpr c27
          have c27b1 : (t419 != 0) = true:=bne_iff_ne.mpr c27
          (skip)
          have H':=Aside0.mk H
          clear H
          go_wp2
          go_meet
          case rel => exact ⟨_,(true),(by rfl),H',⟨by have:=HJ1.out;have:=HK2.out;omega⟩,⟨by exact Kd.N_mono HO418.out (fun _ hk => hk.2)⟩,⟨by exact HO422.out⟩,⟨HB.out⟩⟩
        case rest =>
         clear HC23
         try clear c10b0
         try clear c22b0
         try clear c22b1
         obtain ⟨kq,x54_22,rfl,HA,HJ22,HO_5,HO_7,HB⟩:=hcut
         cases kq with
         | zero => exact absurd HA.out (by simp [chancerykeep1_TrackAcceptShows.j2])
         | succ kj22 =>
          have H:=HA.out
          clear HA
          simp only [chancerykeep1_TrackAcceptShows.j2] at H
          by_cases c28 : x54_22 = true
          ·subst c28
           have H1 : (some false) = some r:=by rw [if_pos rfl] at H;exact H
           clear H
           have H:=H1
           clear H1
           obtain rfl:=Option.some.inj H
           go_wp2
           go_ret
           exact ⟨by rfl,HB.out⟩
          ·replace c28:=Bool.eq_false_iff.mpr c28
           subst c28
           have H1 : ((chancerykeep1_shows.f l0 t416 0).bind fun t425 => (if t425 = true then ((chancerykeep1_shows.f l0 t420 1).bind fun t426 => (some t426)) else (some false))) = some r:=by rw [if_neg (show ¬ (false = true) by decide)] at H;exact H
           clear H
           have H:=H1
           clear H1
           replace H:=Option.bind_eq_some_iff.mp H
           obtain ⟨t425,A290,H⟩:=H
           replace H : (if t425 = true then ((chancerykeep1_shows.f l0 t420 1).bind fun t426 => (some t426)) else (some false)) = some r:=H
           have A29:=Aside0.mk A290
           clear A290
           by_cases c30 : t425 = true
           ·subst c30
            have H1 : ((chancerykeep1_shows.f l0 t420 1).bind fun t426 => (some t426)) = some r:=by rw [if_pos rfl] at H;exact H
            clear H
            have H:=H1
            clear H1
            replace H:=Option.bind_eq_some_iff.mp H
            obtain ⟨t426,A310,H⟩:=H
            replace H : (some t426) = some r:=H
            have A31:=Aside0.mk A310
            clear A310
            obtain rfl:=Option.some.inj H
            obtain ⟨Ao32,co32,eo32⟩:=Kd.N_slice HO_5.out
            subst eo32
            go_wp2_with (first | ((with_reducible refine gate_callee (f:=18) rfl ?_);refine goesL_ (some 57) rfl rfl Try.func18 (by kernel_rfl) rfl #[.slice A0 l0.length c0,.slice Ao32 t416.length co32,.int .i64 0] rfl (by (try simp only [List.map_toArray,List.map_cons,List.map_nil]);rfl) ?_;(with_reducible refine (chancerykeep1_shows.calls _ _ l0 _ _ t416 0 true _ ?side1 ?side2 ?side3 ?side4 A29.out).mono ?_);(case side1 => repeat (exact (Kd.C_below HR0.out HB.out)));(case side2 => exact HC0.out);(case side3 => repeat (exact (Kd.N_reads' HO_5.out).2.2));(case side4 => exact (Kd.N_reads' HO_5.out).2.1);rintro e w33 ⟨rfl,hb⟩;refine ⟨_,rfl,?_⟩;have n0_:=Aside0.mk (Kd.N_below HO_5.out hb);have n1_:=Aside0.mk (Kd.N_below HO_7.out hb);have n2_:=Aside0.mk (below_step (by with_reducible exact HB.out) hb);clear HO_5;clear HO_7;clear HB;have HO_5:=n0_;have HO_7:=n1_;have HB:=n2_;clear n0_ n1_ n2_;(try clear hb);(try clear hb2);(try clear hk);(try clear hi);obtain ⟨Ao34,co34,eo34⟩:=Kd.N_slice HO_7.out;subst eo34) | (go_at_call 18;(with_reducible refine (chancerykeep1_shows.calls _ _ l0 _ _ t420 1 t426 _ ?side1 ?side2 ?side3 ?side4 A31.out).mono ?_);(case side1 => repeat (exact (Kd.C_below HR0.out HB.out)));(case side2 => exact HC0.out);(case side3 => repeat (exact (Kd.N_reads' HO_7.out).2.2));(case side4 => exact (Kd.N_reads' HO_7.out).2.1);rintro e w35 ⟨rfl,hb⟩;have n0_:=Aside0.mk (Kd.N_below HO_5.out hb);have n1_:=Aside0.mk (Kd.N_below HO_7.out hb);have n2_:=Aside0.mk (below_step (by with_reducible exact HB.out) hb);clear HO_5;clear HO_7;clear HB;have HO_5:=n0_;have HO_7:=n1_;have HB:=n2_;clear n0_ n1_ n2_;(try clear hb);(try clear hb2);(try clear hk);(try clear hi)))
            go_ret
            exact ⟨by rfl,HB.out⟩
           ·replace c30:=Bool.eq_false_iff.mpr c30
            subst c30
            have H1 : (some false) = some r:=by rw [if_neg (show ¬ (false = true) by decide)] at H;exact H
            clear H
            have H:=H1
            clear H1
            obtain rfl:=Option.some.inj H
            obtain ⟨Ao36,co36,eo36⟩:=Kd.N_slice HO_5.out
            subst eo36
            go_wp2_with (((with_reducible refine gate_callee (f:=18) rfl ?_);refine goesL_ (some 57) rfl rfl Try.func18 (by kernel_rfl) rfl #[.slice A0 l0.length c0,.slice Ao36 t416.length co36,.int .i64 0] rfl (by (try simp only [List.map_toArray,List.map_cons,List.map_nil]);rfl) ?_;(with_reducible refine (chancerykeep1_shows.calls _ _ l0 _ _ t416 0 false _ ?side1 ?side2 ?side3 ?side4 A29.out).mono ?_);(case side1 => repeat (exact (Kd.C_below HR0.out HB.out)));(case side2 => exact HC0.out);(case side3 => repeat (exact (Kd.N_reads' HO_5.out).2.2));(case side4 => exact (Kd.N_reads' HO_5.out).2.1);rintro e w37 ⟨rfl,hb⟩;refine ⟨_,rfl,?_⟩;have n0_:=Aside0.mk (Kd.N_below HO_5.out hb);have n1_:=Aside0.mk (Kd.N_below HO_7.out hb);have n2_:=Aside0.mk (below_step (by with_reducible exact HB.out) hb);clear HO_5;clear HO_7;clear HB;have HO_5:=n0_;have HO_7:=n1_;have HB:=n2_;clear n0_ n1_ n2_;(try clear hb);(try clear hb2);(try clear hk);(try clear hi)))
            go_ret
            exact ⟨by rfl,HB.out⟩
       ·rw [if_neg c22] at H
        have c22b0 : (t424 == 0) = false:=beq_eq_false_iff_ne.mpr c22
        have c22b1 : (t424 != 0) = true:=bne_iff_ne.mpr c22
        by_cases c38 : t419 = 0
        ·rw [if_pos c38] at H
         have c38b0 : (t419 == 0) = true:=beq_iff_eq.mpr c38
         have c38b1 : (t419 != 0) = false:=bne_eq_false_iff_eq.mpr c38
         clear c38
         obtain rfl:=Option.some.inj H
         go_wp2_with (first | ((with_reducible refine gate_callee (f:=15) rfl ?_);refine goesL_ (some 29) rfl rfl Try.func15 (by kernel_rfl) rfl #[.slice A0 l0.length c0,.int .i64 0,.int .i64 (l0.length : Int)] rfl (by (try simp only [List.map_toArray,List.map_cons,List.map_nil]);rfl) ?_;(with_reducible refine (track_Accept.calls k2 _ _ l0 0 (l0.length : Int) t416 t419 _ ?side1 ?side2 A19.out).mono ?_);(case side1 => repeat (exact (Kd.C_below HR0.out HB.out)));(case side2 => exact HC0.out);rintro e w39 ⟨v417,rfl,ho0,hb⟩;refine ⟨_,rfl,?_⟩;have n0_:=Aside0.mk (Kd.N_lower (Kd.N_mono (ok':=fun k_ => True) ho0 (fun k_ hk_ => trivial)) (below_size (by with_reducible exact HB.out)));have n1_:=Aside0.mk (below_step (by with_reducible exact HB.out) hb);clear HB;have HO418:=n0_;have HB:=n1_;clear n0_ n1_;(try clear hb);(try clear hb2);(try clear hk);(try clear hi);(try clear ho0)) | ((with_reducible refine gate_callee (f:=16) rfl ?_);refine goesL_ (some 36) rfl rfl Try.func16 (by kernel_rfl) rfl #[.slice A0 l0.length c0,.int .i64 0,.int .i64 (l0.length : Int)] rfl (by (try simp only [List.map_toArray,List.map_cons,List.map_nil]);rfl) ?_;(with_reducible refine (track_Reject.calls k2 _ _ l0 0 (l0.length : Int) t420 t423 _ ?side1 ?side2 A20.out).mono ?_);(case side1 => repeat (exact (Kd.C_below HR0.out HB.out)));(case side2 => exact HC0.out);rintro e w40 ⟨v421,rfl,ho0,hb⟩;refine ⟨_,rfl,?_⟩;have n0_:=Aside0.mk (Kd.N_elder' HO418.out (Kd.N_base ho0) hb);have n1_:=Aside0.mk (Kd.N_lower (Kd.N_mono (ok':=fun k_ => some k_ ≠ (v417 : Value).ownBlock) ho0 (fun k_ hk_ => (Kd.fresh' (Kd.N_lt HO418.out) k_ hk_))) (below_size (by with_reducible exact HB.out)));have n2_:=Aside0.mk (below_step (by with_reducible exact HB.out) hb);clear HO418;clear HB;have HO418:=n0_;have HO422:=n1_;have HB:=n2_;clear n0_ n1_ n2_;(try clear hb);(try clear hb2);(try clear hk);(try clear hi);(try clear ho0)) | ((with_reducible refine gate_callee (f:=17) rfl ?_);refine goesL_ (some 40) rfl rfl Try.func17 (by kernel_rfl) rfl #[.slice A0 l0.length c0,.bool true] rfl (by (try simp only [List.map_toArray,List.map_cons,List.map_nil]);rfl) ?_;(with_reducible refine (chanceryref1_FlowError.calls k2 _ _ l0 true t424 _ ?side1 ?side2 A21.out).mono ?_);(case side1 => repeat (exact (Kd.C_below HR0.out HB.out)));(case side2 => exact HC0.out);rintro e w41 ⟨rfl,hb⟩;refine ⟨_,rfl,?_⟩;have n0_:=Aside0.mk (Kd.N_below HO418.out hb);have n1_:=Aside0.mk (Kd.N_below HO422.out hb);have n2_:=Aside0.mk (below_step (by with_reducible exact HB.out) hb);clear HO418;clear HO422;clear HB;have HO418:=n0_;have HO422:=n1_;have HB:=n2_;clear n0_ n1_ n2_;(try clear hb);(try clear hb2);(try clear hk);(try clear hi)))
         go_ret
         exact ⟨by rfl,HB.out⟩
        ·rw [if_neg c38] at H
         have c38b0 : (t419 == 0) = false:=beq_eq_false_iff_ne.mpr c38
         have c38b1 : (t419 != 0) = true:=bne_iff_ne.mpr c38
         obtain rfl:=Option.some.inj H
         go_wp2_with (first | ((with_reducible refine gate_callee (f:=15) rfl ?_);refine goesL_ (some 29) rfl rfl Try.func15 (by kernel_rfl) rfl #[.slice A0 l0.length c0,.int .i64 0,.int .i64 (l0.length : Int)] rfl (by (try simp only [List.map_toArray,List.map_cons,List.map_nil]);rfl) ?_;(with_reducible refine (track_Accept.calls k2 _ _ l0 0 (l0.length : Int) t416 t419 _ ?side1 ?side2 A19.out).mono ?_);(case side1 => repeat (exact (Kd.C_below HR0.out HB.out)));(case side2 => exact HC0.out);rintro e w42 ⟨v417,rfl,ho0,hb⟩;refine ⟨_,rfl,?_⟩;have n0_:=Aside0.mk (Kd.N_lower (Kd.N_mono (ok':=fun k_ => True) ho0 (fun k_ hk_ => trivial)) (below_size (by with_reducible exact HB.out)));have n1_:=Aside0.mk (below_step (by with_reducible exact HB.out) hb);clear HB;have HO418:=n0_;have HB:=n1_;clear n0_ n1_;(try clear hb);(try clear hb2);(try clear hk);(try clear hi);(try clear ho0)) | ((with_reducible refine gate_callee (f:=16) rfl ?_);refine goesL_ (some 36) rfl rfl Try.func16 (by kernel_rfl) rfl #[.slice A0 l0.length c0,.int .i64 0,.int .i64 (l0.length : Int)] rfl (by (try simp only [List.map_toArray,List.map_cons,List.map_nil]);rfl) ?_;(with_reducible refine (track_Reject.calls k2 _ _ l0 0 (l0.length : Int) t420 t423 _ ?side1 ?side2 A20.out).mono ?_);(case side1 => repeat (exact (Kd.C_below HR0.out HB.out)));(case side2 => exact HC0.out);rintro e w43 ⟨v421,rfl,ho0,hb⟩;refine ⟨_,rfl,?_⟩;have n0_:=Aside0.mk (Kd.N_elder' HO418.out (Kd.N_base ho0) hb);have n1_:=Aside0.mk (Kd.N_lower (Kd.N_mono (ok':=fun k_ => some k_ ≠ (v417 : Value).ownBlock) ho0 (fun k_ hk_ => (Kd.fresh' (Kd.N_lt HO418.out) k_ hk_))) (below_size (by with_reducible exact HB.out)));have n2_:=Aside0.mk (below_step (by with_reducible exact HB.out) hb);clear HO418;clear HB;have HO418:=n0_;have HO422:=n1_;have HB:=n2_;clear n0_ n1_ n2_;(try clear hb);(try clear hb2);(try clear hk);(try clear hi);(try clear ho0)) | ((with_reducible refine gate_callee (f:=17) rfl ?_);refine goesL_ (some 40) rfl rfl Try.func17 (by kernel_rfl) rfl #[.slice A0 l0.length c0,.bool true] rfl (by (try simp only [List.map_toArray,List.map_cons,List.map_nil]);rfl) ?_;(with_reducible refine (chanceryref1_FlowError.calls k2 _ _ l0 true t424 _ ?side1 ?side2 A21.out).mono ?_);(case side1 => repeat (exact (Kd.C_below HR0.out HB.out)));(case side2 => exact HC0.out);rintro e w44 ⟨rfl,hb⟩;refine ⟨_,rfl,?_⟩;have n0_:=Aside0.mk (Kd.N_below HO418.out hb);have n1_:=Aside0.mk (Kd.N_below HO422.out hb);have n2_:=Aside0.mk (below_step (by with_reducible exact HB.out) hb);clear HO418;clear HO422;clear HB;have HO418:=n0_;have HO422:=n1_;have HB:=n2_;clear n0_ n1_ n2_;(try clear hb);(try clear hb2);(try clear hk);(try clear hi)))
         go_ret
         exact ⟨by rfl,HB.out⟩
end
end Go.Proofs.Ytlcodfjlbhjkbaa.PDelta
end
section
namespace Go.Proofs.Ytlcodfjlbhjkbaa.PDelta
open Go.RowKit Go.Proofs.YtlcodfjlbhjkbaaW.PrintWords Go.Proofs.YtlcodfjlbhjkbaaW.PrintLast Go.Proofs.YtlcodfjlbhjkbaaW.PrintMore
theorem get_l0 (l : List S91) (n : ByteArray) (hs : l.length ≤ 1099511627776) (d : Nat) : ∀ i : Nat,i + d = l.length → ∃ b,Ev (fun k => attr_Get.l0 k n l (l.length : Int) (i : Int)) b ∧ b.toList = (look (l.drop i) n.toList).getD []:=by
 induction d with
 | zero =>
  intro i hi
  refine ⟨⟨#[]⟩,Ev.step (f:=fun _ => some ⟨#[]⟩) (fun k => ?_) (Ev.now _),?_⟩
  ·simp only [attr_Get.l0]
   rw [if_neg (by omega)]
  ·rw [List.drop_eq_nil_of_le (by omega)]
   exact nil_list
 | succ d ih =>
  intro i hi
  obtain ⟨b,hb,he⟩:=ih (i + 1) (by omega)
  rw [drop_T91 l i (by omega),look]
  by_cases hx : (rd_T91 l (i : Int)).f0.toList = n.toList
  ·refine ⟨(rd_T91 l (i : Int)).f1,Ev.step (f:=fun _ => some (rd_T91 l (i : Int)).f1) (fun k => ?_) (Ev.now _),?_⟩
   ·simp only [attr_Get.l0]
    rw [if_pos (by omega),if_pos (by omega),if_pos (by omega),if_pos hx]
   ·rw [if_pos hx]
    rfl
  ·refine ⟨b,Ev.step (fun k => ?_) hb,?_⟩
   ·simp only [attr_Get.l0]
    rw [if_pos (by omega),if_pos (by omega),if_pos (by omega),if_neg hx,wrap_up (by omega) (by omega)]
    rfl
   ·rw [if_neg hx]
    exact he
theorem get_ev (l : List S91) (n : ByteArray) (hs : l.length ≤ 1099511627776) : ∃ b,Ev (fun k => attr_Get.f k l n) b ∧ b.toList = (look l n.toList).getD []:=get_l0 l n hs l.length 0 (by omega)
theorem has_l0 (l : List S91) (n : ByteArray) (hs : l.length ≤ 1099511627776) (d : Nat) : ∀ i : Nat,i + d = l.length → Ev (fun k => chanceryref1_Has.l0 k l n (l.length : Int) (i : Int)) (look (l.drop i) n.toList).isSome:=by
 induction d with
 | zero =>
  intro i hi
  rw [List.drop_eq_nil_of_le (by omega)]
  refine Ev.step (f:=fun _ => some false) (fun k => ?_) (Ev.now _)
  simp only [chanceryref1_Has.l0]
  rw [if_neg (by omega)]
 | succ d ih =>
  intro i hi
  have hb:=ih (i + 1) (by omega)
  rw [drop_T91 l i (by omega),look]
  by_cases hx : (rd_T91 l (i : Int)).f0.toList = n.toList
  ·rw [if_pos hx]
   refine Ev.step (f:=fun _ => some true) (fun k => ?_) (Ev.now _)
   simp only [chanceryref1_Has.l0]
   rw [if_pos (by omega),if_pos (by omega),if_pos (by omega),if_pos hx]
  ·rw [if_neg hx]
   refine Ev.step (fun k => ?_) hb
   simp only [chanceryref1_Has.l0]
   rw [if_pos (by omega),if_pos (by omega),if_pos (by omega),if_neg hx,wrap_up (by omega) (by omega)]
   rfl
theorem has_ev (l : List S91) (n : ByteArray) (hs : l.length ≤ 1099511627776) : Ev (fun k => chanceryref1_Has.f k l n) (look l n.toList).isSome:=has_l0 l n hs l.length 0 (by omega)
def LastOK (f : List S26) : Prop:=0 < f.length ∧ (rd_T26 f ((f.length : Int) - 1)).f0 = 10
theorem chk_l0' (f : List S26) (hs : FSmall f) (d : Nat) : ∀ i : Nat,i + d = f.length →
 ∃ r : Int,Ev (fun k => flow_Check.l0 k f true f (f.length : Int) (i : Int)) r ∧ (r = 0 ↔ (∀ j : Int,(i : Int) ≤ j → j < f.length → ElemOK (rd_T26 f j)) ∧ LastOK f):=by
 induction d with
 | zero =>
  intro i hi
  have hs1:=hs.1
  by_cases hz : f.length = 0
  ·refine ⟨11,Ev.step (f:=fun _ => some 11) (fun k => ?_) (Ev.now _),⟨fun h => absurd h (by decide),fun h => by have:=h.2.1;omega⟩⟩
   simp only [flow_Check.l0,if_true]
   rw [if_neg (by omega),if_pos (by omega)]
  ·have hw : wrap64 ((f.length : Int) - 1) = (f.length : Int) - 1:=wrap_dn (by omega) (by omega)
   by_cases hl : (rd_T26 f ((f.length : Int) - 1)).f0 = 10
   ·refine ⟨0,Ev.step (f:=fun _ => some 0) (fun k => ?_) (Ev.now _),⟨fun _ => ⟨fun j h1 h2 => by omega,by omega,hl⟩,fun _ => rfl⟩⟩
    simp only [flow_Check.l0,if_true]
    rw [if_neg (by omega),if_neg (by omega),hw,if_pos (by omega),if_pos (by omega),if_pos hl]
   ·refine ⟨11,Ev.step (f:=fun _ => some 11) (fun k => ?_) (Ev.now _),⟨fun h => absurd h (by decide),fun h => absurd h.2.2 hl⟩⟩
    simp only [flow_Check.l0,if_true]
    rw [if_neg (by omega),if_neg (by omega),hw,if_pos (by omega),if_pos (by omega),if_neg hl]
 | succ d ih =>
  intro i hi
  have hs1:=hs.1
  obtain ⟨e,he,hei⟩:=elem_ev (rd_T26 f (i : Int)) (hs.2 _ (rdf_mem (by omega) (by omega))).1
  obtain ⟨r,hr,hri⟩:=ih (i + 1) (by omega)
  by_cases hz : e = 0
  ·subst hz
   refine ⟨r,Ev.step (fun k => by simp only [flow_Check.l0,if_true];rw [if_pos (by omega),if_pos (by omega),if_pos (by omega),wrap_up (by omega) (by omega)]) (Ev.bind he (Ev.congr (fun k => by rw [if_pos rfl];rfl) hr)),hri.trans ⟨fun h => ⟨fun j h2 h3 => ?_,h.2⟩,fun h => ⟨fun j h2 h3 => h.1 j (by omega) h3,h.2⟩⟩⟩
   rcases Int.lt_or_eq_of_le h2 with h4 | h4
   ·exact h.1 j (by omega) h3
   ·subst h4;exact hei.1 rfl
  ·refine ⟨e,Ev.step (fun k => by simp only [flow_Check.l0];rw [if_pos (by omega),if_pos (by omega),if_pos (by omega)]) (Ev.bind he (Ev.congr (fun k => by rw [if_neg hz]) (Ev.now e))),⟨fun h => absurd h hz,fun h => ?_⟩⟩
   exact hei.2 (h.1 i (Int.le_refl _) (by omega))
theorem fcheck_ev (f : List S26) (hs : FSmall f) : ∃ r : Int,Ev (fun k => flow_Check.f k f true) r ∧ (r = 0 ↔ POK f ∧ LastOK f):=chk_l0' f hs f.length 0 (by omega)
theorem ferr_l0 (f : List S26) (hs : FSmall f) (d : Nat) : ∀ i : Nat,i + d = f.length →
 ∃ r : Int,Ev (fun k => chanceryref1_FlowError.l0 k f true (f.length : Int) (i : Int)) r ∧ (r = 0 ↔ (∀ j : Int,(i : Int) ≤ j → j < f.length → ElemOK (rd_T26 f j)) ∧ LastOK f):=by
 induction d with
 | zero =>
  intro i hi
  have hs1:=hs.1
  by_cases hz : f.length = 0
  ·refine ⟨11,Ev.step (f:=fun _ => some 11) (fun k => ?_) (Ev.now _),⟨fun h => absurd h (by decide),fun h => by have:=h.2.1;omega⟩⟩
   simp only [chanceryref1_FlowError.l0,if_true]
   rw [if_neg (by omega),if_pos (by omega)]
  ·have hw : wrap64 ((f.length : Int) - 1) = (f.length : Int) - 1:=wrap_dn (by omega) (by omega)
   by_cases hl : (rd_T26 f ((f.length : Int) - 1)).f0 = 10
   ·refine ⟨0,Ev.step (f:=fun _ => some 0) (fun k => ?_) (Ev.now _),⟨fun _ => ⟨fun j h1 h2 => by omega,by omega,hl⟩,fun _ => rfl⟩⟩
    simp only [chanceryref1_FlowError.l0,if_true]
    rw [if_neg (by omega),if_neg (by omega),hw,if_pos (by omega),if_pos (by omega),if_pos hl]
   ·refine ⟨11,Ev.step (f:=fun _ => some 11) (fun k => ?_) (Ev.now _),⟨fun h => absurd h (by decide),fun h => absurd h.2.2 hl⟩⟩
    simp only [chanceryref1_FlowError.l0,if_true]
    rw [if_neg (by omega),if_neg (by omega),hw,if_pos (by omega),if_pos (by omega),if_neg hl]
 | succ d ih =>
  intro i hi
  have hs1:=hs.1
  obtain ⟨e,he,hei⟩:=relem_ev (rd_T26 f (i : Int)) (hs.2 _ (rdf_mem (by omega) (by omega))).1
  obtain ⟨r,hr,hri⟩:=ih (i + 1) (by omega)
  by_cases hz : e = 0
  ·subst hz
   refine ⟨r,Ev.step (fun k => by simp only [chanceryref1_FlowError.l0,if_true];rw [if_pos (by omega),if_pos (by omega),if_pos (by omega),wrap_up (by omega) (by omega)]) (Ev.bind he (Ev.congr (fun k => by rw [if_pos rfl];rfl) hr)),hri.trans ⟨fun h => ⟨fun j h2 h3 => ?_,h.2⟩,fun h => ⟨fun j h2 h3 => h.1 j (by omega) h3,h.2⟩⟩⟩
   rcases Int.lt_or_eq_of_le h2 with h4 | h4
   ·exact h.1 j (by omega) h3
   ·subst h4;exact hei.1 rfl
  ·refine ⟨e,Ev.step (fun k => by simp only [chanceryref1_FlowError.l0];rw [if_pos (by omega),if_pos (by omega),if_pos (by omega)]) (Ev.bind he (Ev.congr (fun k => by rw [if_neg hz]) (Ev.now e))),⟨fun h => absurd h hz,fun h => ?_⟩⟩
   exact hei.2 (h.1 i (Int.le_refl _) (by omega))
theorem ferr_ev (f : List S26) (hs : FSmall f) : ∃ r : Int,Ev (fun k => chanceryref1_FlowError.f k f true) r ∧ (r = 0 ↔ POK f ∧ LastOK f):=ferr_l0 f hs f.length 0 (by omega)
def insP (n v : ByteArray) : List S91 → List S91
 | [] => [⟨n,v⟩]
 | x :: r => if Op.bytesLess x.f0.toList n.toList = true then x :: insP n v r else if x.f0.toList = n.toList then ⟨n,v⟩ :: r else ⟨n,v⟩ :: x :: r
theorem insP_len (n v : ByteArray) : ∀ l,(insP n v l).length ≤ l.length + 1
 | [] => by simp [insP]
 | x :: r => by
  have:=insP_len n v r
  unfold insP
  split
  ·simp only [List.length_cons];omega
  ·split <;> simp only [List.length_cons] <;> omega
theorem insP_mem {n v : ByteArray} : ∀ {l : List S91} {y : S91},y ∈ insP n v l → y = ⟨n,v⟩ ∨ y ∈ l
 | [],y,h => by rw [insP] at h;exact .inl (List.mem_singleton.1 h)
 | x :: r,y,h => by
  unfold insP at h
  split at h
  ·rcases List.mem_cons.1 h with h | h
   ·exact .inr (h ▸ List.mem_cons_self)
   ·rcases insP_mem h with h | h
    ·exact .inl h
    ·exact .inr (List.mem_cons_of_mem _ h)
  ·split at h
   ·rcases List.mem_cons.1 h with h | h
    ·exact .inl h
    ·exact .inr (List.mem_cons_of_mem _ h)
   ·rcases List.mem_cons.1 h with h | h
    ·exact .inl h
    ·exact .inr h
theorem insP_srt {n v : ByteArray} : ∀ {l : List S91},Srt l → Srt (insP n v l)
 | [],_ => by rw [insP];exact List.pairwise_singleton _ _
 | x :: r,h => by
  obtain ⟨h1,h2⟩:=List.pairwise_cons.1 h
  unfold insP
  split
  ·rename_i hl
   refine List.pairwise_cons.2 ⟨fun y hy => ?_,insP_srt h2⟩
   rcases insP_mem hy with rfl | hy
   ·exact hl
   ·exact h1 y hy
  ·rename_i hl
   split
   ·rename_i he
    refine List.pairwise_cons.2 ⟨fun y hy => ?_,h2⟩
    have:=h1 y hy
    unfold ltS at this ⊢
    rw [he] at this
    exact this
   ·rename_i he
    have hn : Op.bytesLess n.toList x.f0.toList = true:=by
     cases hb : Op.bytesLess n.toList x.f0.toList with
     | true => rfl
     | false => exact absurd (Ord.less_total (Bool.eq_false_iff.mpr hl) hb) he
    refine List.pairwise_cons.2 ⟨fun y hy => ?_,h⟩
    rcases List.mem_cons.1 hy with rfl | hy
    ·exact hn
    ·exact Ord.less_trans hn (h1 y hy)
theorem look_insP {n v : ByteArray} (m : Bs) : ∀ {l : List S91},Srt l → look (insP n v l) m = if n.toList = m then some v.toList else look l m
 | [],_ => by rw [insP,look];rfl
 | x :: r,h => by
  obtain ⟨h1,h2⟩:=List.pairwise_cons.1 h
  unfold insP
  split
  ·rename_i hl
   rw [look,look_insP m h2,look]
   by_cases hx : x.f0.toList = m
   ·have hnm : n.toList ≠ m:=fun e => by rw [hx,← e,Ord.less_irrefl] at hl;cases hl
    rw [if_pos hx,if_pos hx,if_neg hnm]
   ·rw [if_neg hx,if_neg hx]
  ·split
   ·rename_i he
    rw [look,look,he]
    by_cases hn : n.toList = m
    ·rw [if_pos hn,if_pos hn]
    ·rw [if_neg hn,if_neg hn,if_neg hn]
   ·rw [look]
theorem put_done (l : List S91) (n v : ByteArray) (hs : l.length ≤ 1099511627776) (d : Nat) : ∀ (i : Nat) (out : List S91),i + d = l.length → out.length ≤ i + 1 → (∀ y ∈ l.drop i,y.f0.toList ≠ n.toList) →
 Ev (fun k => chanceryref1_put.l0 k l out true (l.length : Int) (i : Int) n v) (out ++ l.drop i):=by
 induction d with
 | zero =>
  intro i out hi ho _
  rw [List.drop_eq_nil_of_le (by omega),List.append_nil]
  refine Ev.step (f:=fun _ => some out) (fun k => ?_) (Ev.now _)
  simp only [chanceryref1_put.l0]
  rw [if_neg (by omega),if_pos trivial]
 | succ d ih =>
  intro i out hi ho hn
  rw [drop_T91 l i (by omega)] at hn ⊢
  have h:=ih (i + 1) (out ++ [rd_T91 l (i : Int)]) (by omega) (by simp;omega) (fun y hy => hn y (List.mem_cons_of_mem _ hy))
  rw [List.append_assoc,List.singleton_append] at h
  refine Ev.step (fun k => by simp only [chanceryref1_put.l0];rw [if_pos (by omega),if_pos trivial]) (Ev.step (fun k => ?_) h)
  simp only [chanceryref1_put.j1]
  rw [if_neg (by decide),if_pos (by omega),if_pos (by omega),if_neg (hn _ List.mem_cons_self),if_pos (by omega),wrap_up (by omega) (by omega)]
  rfl
theorem put_l0 (l : List S91) (n v : ByteArray) (hs : l.length ≤ 1099511627776) (hl : Srt l) (d : Nat) : ∀ (i : Nat) (out : List S91),i + d = l.length → out.length ≤ i →
 Ev (fun k => chanceryref1_put.l0 k l out false (l.length : Int) (i : Int) n v) (out ++ insP n v (l.drop i)):=by
 induction d with
 | zero =>
  intro i out hi ho
  rw [List.drop_eq_nil_of_le (by omega),insP]
  refine Ev.step (f:=fun _ => some (out ++ [⟨n,v⟩])) (fun k => ?_) (Ev.now _)
  simp only [chanceryref1_put.l0]
  rw [if_neg (by omega),if_neg (by decide),if_pos (by omega)]
 | succ d ih =>
  intro i out hi ho
  have hd : Srt (l.drop i):=hl.sublist (List.drop_sublist _ _)
  rw [drop_T91 l i (by omega)] at hd ⊢
  obtain ⟨h1,h2⟩:=List.pairwise_cons.1 hd
  unfold insP
  by_cases hx : Op.bytesLess (rd_T91 l (i : Int)).f0.toList n.toList = true
  ·rw [if_pos hx]
   have hne : (rd_T91 l (i : Int)).f0.toList ≠ n.toList:=fun e => by rw [e,Ord.less_irrefl] at hx;cases hx
   have h:=ih (i + 1) (out ++ [rd_T91 l (i : Int)]) (by omega) (by simp;omega)
   rw [List.append_assoc,List.singleton_append] at h
   refine Ev.step (fun k => by simp only [chanceryref1_put.l0];rw [if_pos (by omega),if_neg (by decide),if_pos (by omega),if_pos (by omega),hx]) (Ev.step (fun k => ?_) h)
   simp only [chanceryref1_put.j1]
   rw [if_neg (by decide),if_pos (by omega),if_pos (by omega),if_neg hne,if_pos (by omega),wrap_up (by omega) (by omega)]
   rfl
  ·have hxf:=Bool.eq_false_iff.mpr hx
   rw [if_neg hx]
   have hgt : ∀ y ∈ l.drop (i + 1),y.f0.toList ≠ n.toList:=fun y hy e => by
    have:=h1 y hy
    unfold ltS at this
    rw [e] at this
    exact hx this
   by_cases he : (rd_T91 l (i : Int)).f0.toList = n.toList
   ·rw [if_pos he]
    have h:=put_done l n v hs d (i + 1) (out ++ [⟨n,v⟩]) (by omega) (by simp;omega) hgt
    rw [List.append_assoc,List.singleton_append] at h
    refine Ev.step (fun k => by simp only [chanceryref1_put.l0];rw [if_pos (by omega),if_neg (by decide),if_pos (by omega),if_pos (by omega),hxf]) (Ev.step (fun k => ?_) h)
    simp only [chanceryref1_put.j1]
    rw [if_pos (by decide),if_pos (by omega),Option.bind_some,if_pos (by omega),if_pos (by omega),if_pos he,wrap_up (by omega) (by omega)]
    rfl
   ·rw [if_neg he]
    have h:=put_done l n v hs d (i + 1) (out ++ [⟨n,v⟩] ++ [rd_T91 l (i : Int)]) (by omega) (by simp;omega) hgt
    rw [show out ++ [⟨n,v⟩] ++ [rd_T91 l (i : Int)] ++ l.drop (i + 1) = out ++ ⟨n,v⟩ :: rd_T91 l (i : Int) :: l.drop (i + 1) by simp] at h
    refine Ev.step (fun k => by simp only [chanceryref1_put.l0];rw [if_pos (by omega),if_neg (by decide),if_pos (by omega),if_pos (by omega),hxf]) (Ev.step (fun k => ?_) h)
    simp only [chanceryref1_put.j1]
    rw [if_pos (by decide),if_pos (by omega),Option.bind_some,if_pos (by omega),if_pos (by omega),if_neg he,if_pos (by simp;omega),wrap_up (by omega) (by omega)]
    rfl
theorem put_ev (l : List S91) (n v : ByteArray) (hs : l.length ≤ 1099511627776) (hl : Srt l) : Ev (fun k => chanceryref1_put.f k l n v) (insP n v l):=put_l0 l n v hs hl l.length 0 [] (by omega) (Nat.le_refl _)
def putsP (acc : List S91) : List S91 → List S91
 | [] => acc
 | x :: l => putsP (insP x.f0 x.f1 acc) l
theorem putsP_srt : ∀ {l acc : List S91},Srt acc → Srt (putsP acc l)
 | [],_,h => h
 | x :: l,_,h => putsP_srt (l:=l) (insP_srt h)
theorem look_putsP (m : Bs) : ∀ {l acc : List S91},Srt acc → Srt l → look (putsP acc l) m = (look l m).or (look acc m)
 | [],_,_,_ => by rw [putsP,look,Option.none_or]
 | x :: l,acc,h,hl => by
  obtain ⟨h1,h2⟩:=List.pairwise_cons.1 hl
  rw [putsP,look_putsP m (insP_srt h) h2,look_insP m h,look]
  by_cases hx : x.f0.toList = m
  ·rw [if_pos hx,if_pos hx,look_above (fun y hy => by have:=h1 y hy;unfold ltS at this;rw [hx] at this;exact this)]
   rfl
  ·rw [if_neg hx,if_neg hx]
def full (x : S91) : Bool:=!x.f1.toList.isEmpty
theorem look_full (m : Bs) : ∀ {l : List S91},Srt l → look (l.filter full) m = (look l m).bind (fun v => if v = [] then none else some v)
 | [],_ => rfl
 | x :: l,h => by
  obtain ⟨h1,h2⟩:=List.pairwise_cons.1 h
  have hi:=look_full m h2
  by_cases hf : x.f1.toList = []
  ·rw [List.filter_cons_of_neg (by simp [full,hf]),hi,look]
   by_cases hx : x.f0.toList = m
   ·rw [if_pos hx,look_above (fun y hy => by have:=h1 y hy;unfold ltS at this;rw [hx] at this;exact this),Option.bind_some,if_pos hf]
    rfl
   ·rw [if_neg hx]
  ·rw [List.filter_cons_of_pos (by simp [full,hf]),look,hi,look]
   by_cases hx : x.f0.toList = m
   ·rw [if_pos hx,if_pos hx,Option.bind_some,if_neg hf]
   ·rw [if_neg hx,if_neg hx]
theorem chg_l2 (l : List S91) (hs : l.length ≤ 1099511627776) (d : Nat) : ∀ (i : Nat) (out : List S91),i + d = l.length → out.length ≤ i →
 Ev (fun k => chanceryref1_Changed.l2 k l out (l.length : Int) (i : Int)) (out ++ (l.drop i).filter full):=by
 induction d with
 | zero =>
  intro i out hi ho
  rw [List.drop_eq_nil_of_le (by omega),List.filter_nil,List.append_nil]
  refine Ev.step (f:=fun _ => some out) (fun k => ?_) (Ev.now _)
  simp only [chanceryref1_Changed.l2]
  rw [if_neg (by omega)]
 | succ d ih =>
  intro i out hi ho
  rw [drop_T91 l i (by omega)]
  by_cases hf : (rd_T91 l (i : Int)).f1.toList = []
  ·rw [List.filter_cons_of_neg (by simp [full,hf])]
   refine Ev.step (fun k => ?_) (ih (i + 1) out (by omega) (by omega))
   simp only [chanceryref1_Changed.l2]
   rw [if_pos (by omega),if_pos (by omega),if_pos (by omega),if_pos hf,wrap_up (by omega) (by omega)]
   rfl
  ·rw [List.filter_cons_of_pos (by simp [full,hf])]
   have h:=ih (i + 1) (out ++ [rd_T91 l (i : Int)]) (by omega) (by simp;omega)
   rw [List.append_assoc,List.singleton_append] at h
   refine Ev.step (fun k => ?_) h
   simp only [chanceryref1_Changed.l2]
   rw [if_pos (by omega),if_pos (by omega),if_pos (by omega),if_neg hf,if_pos (by omega),wrap_up (by omega) (by omega)]
   rfl
theorem chg_l1 (t : List S91) (ht : t.length ≤ 1073741824) (d : Nat) : ∀ (i : Nat) (acc : List S91),i + d = t.length → Srt acc → acc.length + d ≤ 2147483648 →
 Ev (fun k => chanceryref1_Changed.l1 k t acc (t.length : Int) (i : Int)) ((putsP acc (t.drop i)).filter full):=by
 induction d with
 | zero =>
  intro i acc hi ha hl
  rw [List.drop_eq_nil_of_le (by omega),putsP]
  refine Ev.step (fun k => ?_) (chg_l2 acc (by omega) acc.length 0 [] (by omega) (Nat.le_refl _))
  simp only [chanceryref1_Changed.l1]
  rw [if_neg (by omega)]
  rfl
 | succ d ih =>
  intro i acc hi ha hl
  rw [drop_T91 t i (by omega),putsP]
  have hle:=insP_len (rd_T91 t (i : Int)).f0 (rd_T91 t (i : Int)).f1 acc
  refine Ev.step (fun k => by simp only [chanceryref1_Changed.l1];rw [if_pos (by omega),if_pos (by omega),if_pos (by omega),wrap_up (by omega) (by omega)]) (Ev.bind (put_ev acc _ _ (by omega) ha) (ih (i + 1) (insP (rd_T91 t (i : Int)).f0 (rd_T91 t (i : Int)).f1 acc) (by omega) (insP_srt ha) (by omega)))
theorem chg_l0 (a t : List S91) (hal : a.length ≤ 1073741824) (ht : t.length ≤ 1073741824) (d : Nat) : ∀ (i : Nat) (acc : List S91),i + d = a.length → Srt acc → acc.length + d ≤ 1073741824 →
 Ev (fun k => chanceryref1_Changed.l0 k a t acc (a.length : Int) (i : Int)) ((putsP (putsP acc (a.drop i)) t).filter full):=by
 induction d with
 | zero =>
  intro i acc hi ha hl
  rw [List.drop_eq_nil_of_le (by omega),putsP]
  refine Ev.step (fun k => ?_) (chg_l1 t ht t.length 0 acc (by omega) ha (by omega))
  simp only [chanceryref1_Changed.l0]
  rw [if_neg (by omega)]
  rfl
 | succ d ih =>
  intro i acc hi ha hl
  rw [drop_T91 a i (by omega),putsP]
  have hle:=insP_len (rd_T91 a (i : Int)).f0 (rd_T91 a (i : Int)).f1 acc
  refine Ev.step (fun k => by simp only [chanceryref1_Changed.l0];rw [if_pos (by omega),if_pos (by omega),if_pos (by omega),wrap_up (by omega) (by omega)]) (Ev.bind (put_ev acc _ _ (by omega) ha) (ih (i + 1) (insP (rd_T91 a (i : Int)).f0 (rd_T91 a (i : Int)).f1 acc) (by omega) (insP_srt ha) (by omega)))
theorem changed_mrg {a t : List S91} (va : VA false a) (vt : VA true t) : (putsP (putsP [] a) t).filter full = mrg rawE a t:=by
 have h1 : Srt (putsP [] a):=putsP_srt List.Pairwise.nil
 refine look_ext ((putsP_srt h1).sublist List.filter_sublist) (va_raw va vt).2 (fun n => ?_)
 rw [look_full n (putsP_srt h1),look_putsP n h1 vt.2,look_putsP n List.Pairwise.nil va.2,look_raw va vt,show look [] n = none from rfl,Option.or_none]
 cases look t n with
 | none =>
  rw [Option.none_or]
  cases ha : look a n with
  | none => rfl
  | some u => exact if_neg (ov_look va n u ha).ne
 | some v => rfl
theorem rchanged_ev {a t : List S91} (va : VA false a) (vt : VA true t) (hal : a.length ≤ 1073741824) (ht : t.length ≤ 1073741824) : Ev (fun k => chanceryref1_Changed.f k a t) (mrg rawE a t):=by
 have h:=chg_l0 a t hal ht a.length 0 [] (by omega) List.Pairwise.nil (by simpa using hal)
 rw [List.drop_zero,changed_mrg va vt] at h
 exact h
def actR : List Un → List S26 × List (List S26) × List Bool × List (List S91)
 | [] => ([],[],[],[])
 | .add x :: u => (x :: (actR u).1,(actR u).2)
 | .keep t :: u => ([],(actR u).1 :: (actR u).2.1,false :: (actR u).2.2.1,t :: (actR u).2.2.2)
 | .cut :: u => ([],(actR u).1 :: (actR u).2.1,true :: (actR u).2.2.1,[] :: (actR u).2.2.2)
theorem actR_adds (u : List Un) : ∀ l : List S26,actR (l.map .add ++ u) = (l ++ (actR u).1,(actR u).2)
 | [] => rfl
 | x :: l => by rw [List.map_cons,List.cons_append,actR,actR_adds u l];rfl
theorem actR_keeps (t : List S91) (u : List Un) : ∀ m : Nat,actR (List.replicate (m + 1) (.keep t) ++ u) = ([],List.replicate m [] ++ (actR u).1 :: (actR u).2.1,List.replicate (m + 1) false ++ (actR u).2.2.1,List.replicate (m + 1) t ++ (actR u).2.2.2)
 | 0 => rfl
 | m + 1 => by rw [List.replicate_succ,List.cons_append,actR,actR_keeps t u m];rfl
theorem actR_cuts (u : List Un) : ∀ m : Nat,actR (List.replicate (m + 1) .cut ++ u) = ([],List.replicate m [] ++ (actR u).1 :: (actR u).2.1,List.replicate (m + 1) true ++ (actR u).2.2.1,List.replicate (m + 1) [] ++ (actR u).2.2.2)
 | 0 => rfl
 | m + 1 => by rw [List.replicate_succ,List.cons_append,actR,actR_cuts u m];rfl
theorem rep_last {α : Type} (a : α) (m : Nat) : List.replicate (m + 1) a = List.replicate m a ++ [a]:=List.replicate_succ'
theorem actL_R : ∀ (d : List S95),(∀ s ∈ d,StepOK s) → ∀ (As : List (List S26)) (L : List S26) (Cs : List Bool) (Ts : List (List S91)),
 actL d (As ++ [L],Cs,Ts) = (As ++ (L ++ (actR (units d)).1) :: (actR (units d)).2.1,Cs ++ (actR (units d)).2.2.1,Ts ++ (actR (units d)).2.2.2)
 | [],_,As,L,Cs,Ts => by simp [actL,units_nil,actR]
 | s :: d,hok,As,L,Cs,Ts => by
  have ih:=actL_R d (fun x hx => hok x (List.mem_cons_of_mem _ hx))
  have hs:=hok s List.mem_cons_self
  rw [actL,actS,units_cons]
  rcases hs with hs | hs | hs
  ·obtain ⟨h0,h1,h2,h3,h4⟩:=hs
   obtain ⟨m,hm⟩ : ∃ m,s.f1.toNat = m + 1:=⟨s.f1.toNat - 1,by omega⟩
   rw [if_neg (by omega),us_keep h0,hm,actR_keeps]
   rw [show (As ++ [L] ++ List.replicate (m + 1) [] : List (List S26)) = (As ++ [L] ++ List.replicate m []) ++ [[]] by rw [rep_last];simp]
   rw [ih]
   simp [h0]
  ·obtain ⟨h0,h1,h2,h3,h4⟩:=hs
   rw [if_pos h0,us_add h0,actR_adds]
   have e1 : (As ++ [L]).length - 1 = As.length:=by simp
   rw [show ((As ++ [L],Cs,Ts) : List (List S26) × List Bool × List (List S91)).1 = As ++ [L] from rfl,e1,show (As ++ [L]).getD As.length [] = L by simp [List.getD_eq_getElem?_getD],show (As ++ [L]).set As.length (L ++ s.f3) = As ++ [L ++ s.f3] by simp,ih]
   simp
  ·obtain ⟨h0,h1,h2,h3,h4⟩:=hs
   obtain ⟨m,hm⟩ : ∃ m,s.f1.toNat = m + 1:=⟨s.f1.toNat - 1,by omega⟩
   rw [if_neg (by omega),us_cut h0,hm,actR_cuts]
   rw [show (As ++ [L] ++ List.replicate (m + 1) [] : List (List S26)) = (As ++ [L] ++ List.replicate m []) ++ [[]] by rw [rep_last];simp]
   rw [ih]
   simp [h0,h4]
theorem actA_R (d : List S95) (hok : ∀ s ∈ d,StepOK s) : actA d = ((actR (units d)).1 :: (actR (units d)).2.1,(actR (units d)).2.2.1,(actR (units d)).2.2.2):=by
 have h:=actL_R d hok [] [] [] []
 simpa [actA] using h
theorem actR_len : ∀ u : List Un,(actR u).2.1.length = nold u ∧ (actR u).2.2.1.length = nold u ∧ (actR u).2.2.2.length = nold u
 | [] => ⟨rfl,rfl,rfl⟩
 | .add x :: u => actR_len u
 | .keep t :: u => by
  obtain ⟨h1,h2,h3⟩:=actR_len u
  exact ⟨congrArg (· + 1) h1,congrArg (· + 1) h2,congrArg (· + 1) h3⟩
 | .cut :: u => by
  obtain ⟨h1,h2,h3⟩:=actR_len u
  exact ⟨congrArg (· + 1) h1,congrArg (· + 1) h2,congrArg (· + 1) h3⟩
theorem actR_mem {P : List S91 → Prop} (h0 : P []) : ∀ u : List Un,(∀ t,Un.keep t ∈ u → P t) → ∀ t ∈ (actR u).2.2.2,P t
 | [],_,t,h => by cases h
 | .add x :: u,hu,t,h => actR_mem h0 u (fun t ht => hu t (List.mem_cons_of_mem _ ht)) t h
 | .keep a :: u,hu,t,h => by
  rcases List.mem_cons.1 h with h | h
  ·exact h ▸ hu a List.mem_cons_self
  ·exact actR_mem h0 u (fun t ht => hu t (List.mem_cons_of_mem _ ht)) t h
 | .cut :: u,hu,t,h => by
  rcases List.mem_cons.1 h with h | h
  ·exact h ▸ h0
  ·exact actR_mem h0 u (fun t ht => hu t (List.mem_cons_of_mem _ ht)) t h
def doneP : List S26 → List S26 → List (List S26) → List Bool → List (List S91) → List S26
 | [],A,_,_,_ => A
 | x :: f,A,As,Cs,Ts => A ++ ((if Cs.headD false = true then [] else [app (Ts.headD []) x]) ++ doneP f (As.headD []) As.tail Cs.tail Ts.tail)
theorem doneP_cons (x : S26) (f A : List S26) (As : List (List S26)) (Cs : List Bool) (Ts : List (List S91)) : doneP f (x :: A) As Cs Ts = x :: doneP f A As Cs Ts:=by
 cases f <;> rfl
theorem done_run : ∀ (u : List Un) (f : List S26),nold u = f.length → doneP f (actR u).1 (actR u).2.1 (actR u).2.2.1 (actR u).2.2.2 = (run f u).1
 | [],f,h => by
  obtain rfl : f = []:=List.length_eq_zero_iff.1 h.symm
  rfl
 | .add x :: u,f,h => by
  have ih:=done_run u f h
  cases f <;> (rw [actR,doneP_cons];exact congrArg (x :: ·) ih)
 | .keep t :: u,[],h => by simp [nold] at h
 | .keep t :: u,x :: f,h => by
  have ih:=done_run u f (by simpa [nold] using h)
  exact congrArg (app t x :: ·) ih
 | .cut :: u,[],h => by simp [nold] at h
 | .cut :: u,x :: f,h => by
  have ih:=done_run u f (by simpa [nold] using h)
  exact ih
theorem wtL_units : ∀ {d : List S95},(∀ s ∈ d,StepOK s) → wtL d = (units d).length
 | [],_ => rfl
 | s :: d,h => by
  have ih:=wtL_units (d:=d) (fun x hx => h x (List.mem_cons_of_mem _ hx))
  rw [wtL,wtS,units_cons,List.length_append,ih]
  rcases h s List.mem_cons_self with hs | hs | hs
  ·rw [us_keep hs.1,hs.2.2.2.1,List.length_replicate];rfl
  ·rw [us_add hs.1,hs.2.1,List.length_map];simp
  ·rw [us_cut hs.1,hs.2.2.2.1,List.length_replicate];rfl
theorem drop_any {α : Type} (z : α) (l : List α) (i : Nat) (h : i < l.length) : l.drop i = l.getD i z :: l.drop (i + 1):=by
 rw [List.drop_eq_getElem_cons h]
 simp [List.getD_eq_getElem?_getD,List.getElem?_eq_getElem h]
theorem done_l0 (f : List S26) (As : List (List S26)) (Cs : List Bool) (Ts : List (List S91)) (hf : ∀ x ∈ f,VA false x.f2 ∧ x.f2.length ≤ 1073741824) (ht : ∀ t ∈ Ts,VA true t ∧ t.length ≤ 1073741824) (hl : f.length ≤ 1073741824)
 (ha : As.length = f.length + 1) (hc : Cs.length = f.length) (htl : Ts.length = f.length) (d : Nat) : ∀ (i : Nat) (out : List S26),i + d = f.length → out.length + (doneP (f.drop i) (As.getD i []) (As.drop (i + 1)) (Cs.drop i) (Ts.drop i)).length ≤ 2147483648 →
 Ev (fun k => chanceryref1_Done.l0 k f out (f.length : Int) (i : Int) As Cs Ts) (out ++ doneP (f.drop i) (As.getD i []) (As.drop (i + 1)) (Cs.drop i) (Ts.drop i)):=by
 induction d with
 | zero =>
  intro i out hi ho
  obtain rfl : i = f.length:=by omega
  rw [List.drop_eq_nil_of_le (Nat.le_refl _),doneP] at ho ⊢
  refine Ev.step (f:=fun _ => some (out ++ As.getD f.length [])) (fun k => ?_) (Ev.now _)
  simp only [chanceryref1_Done.l0]
  rw [if_neg (by omega),if_pos (by omega),if_pos (by omega),show rd_L5 As (f.length : Int) = As.getD f.length [] from rfl,if_pos (by omega)]
 | succ d ih =>
  intro i out hi ho
  have ih1:=fun o => ih (i + 1) o (by omega)
  obtain ⟨ta,hta⟩ : ∃ t,t = Ts.getD i []:=⟨_,rfl⟩
  obtain ⟨cb,hcb⟩ : ∃ c,c = Cs.getD i false:=⟨_,rfl⟩
  obtain ⟨x,hx⟩ : ∃ x,x = rd_T26 f (i : Int):=⟨_,rfl⟩
  have hdf : f.drop i = x :: f.drop (i + 1):=by rw [hx];exact drop_any z26 f i (by omega)
  have hdc : Cs.drop i = cb :: Cs.drop (i + 1):=by rw [hcb];exact drop_any false Cs i (by omega)
  have hdt : Ts.drop i = ta :: Ts.drop (i + 1):=by rw [hta];exact drop_any [] Ts i (by omega)
  have hda : As.drop (i + 1) = As.getD (i + 1) [] :: As.drop (i + 1 + 1):=drop_any [] As (i + 1) (by omega)
  rw [hdf,hdc,hdt,hda,doneP,List.headD_cons,List.headD_cons,List.headD_cons,List.tail_cons,List.tail_cons,List.tail_cons] at ho ⊢
  rw [List.length_append,List.length_append] at ho
  have hob : out.length + (As.getD i []).length < 3518437208883:=by omega
  have e0 : ∀ k,chanceryref1_Done.l0 (k + 1) f out (f.length : Int) (i : Int) As Cs Ts = if cb = true then chanceryref1_Done.l0 k f (out ++ As.getD i []) (f.length : Int) ((i + 1 : Nat) : Int) As Cs Ts else (chanceryref1_Changed.f k x.f2 ta).bind fun t324 => if (out ++ As.getD i []).length < 3518437208883 then chanceryref1_Done.l0 k f (out ++ As.getD i [] ++ [⟨x.f0,x.f1,t324⟩]) (f.length : Int) ((i + 1 : Nat) : Int) As Cs Ts else none:=fun k => by
   simp only [chanceryref1_Done.l0]
   rw [if_pos (by omega),if_pos (by omega),if_pos (by omega),show rd_L5 As (i : Int) = As.getD i [] from rfl,if_pos hob,Option.bind_some,if_pos (by omega),show rdOf false Cs (i : Int) = cb from hcb.symm,show rd_L3 Ts (i : Int) = ta from hta.symm,← hx]
   cases cb with
   | true => rw [if_pos rfl,if_pos rfl,wrap_up (by omega) (by omega)];rfl
   | false => rw [if_neg (by decide),if_pos (by omega),if_pos (by omega),if_neg (by decide),wrap_up (by omega) (by omega)];rfl
  cases cb with
  | true =>
   rw [if_pos rfl] at ho ⊢
   rw [List.nil_append,← List.append_assoc]
   exact Ev.step (fun k => by rw [e0,if_pos rfl]) (ih1 (out ++ As.getD i []) (by rw [List.length_append];simp only [List.length_nil] at ho;omega))
  | false =>
   rw [if_neg (by decide)] at ho ⊢
   have hxm : x ∈ f:=hx ▸ rdf_mem (by omega) (by omega)
   have htm : ta ∈ Ts:=by
    have : ta ∈ Ts.drop i:=by rw [hdt];exact List.mem_cons_self
    exact List.mem_of_mem_drop this
   have h:=ih1 (out ++ As.getD i [] ++ [app ta x]) (by simp only [List.length_append,List.length_singleton] at ho ⊢;omega)
   rw [show out ++ As.getD i [] ++ [app ta x] ++ doneP (f.drop (i + 1)) (As.getD (i + 1) []) (As.drop (i + 1 + 1)) (Cs.drop (i + 1)) (Ts.drop (i + 1)) = out ++ (As.getD i [] ++ ([app ta x] ++ doneP (f.drop (i + 1)) (As.getD (i + 1) []) (As.drop (i + 1 + 1)) (Cs.drop (i + 1)) (Ts.drop (i + 1)))) by simp] at h
   refine Ev.step (fun k => by rw [e0,if_neg (by decide)]) (Ev.bind (rchanged_ev (hf x hxm).1 (ht ta htm).1 (hf x hxm).2 (ht ta htm).2) (Ev.congr (fun k => ?_) h))
   rw [if_pos (by rw [List.length_append];omega)]
   rfl
theorem after_run {f : List S26} {d : List S95} (hf : ∀ x ∈ f,VA false x.f2 ∧ x.f2.length ≤ 1073741824) (hl : f.length ≤ 1073741824) (hok : ∀ s ∈ d,StepOK s) (hd : ∀ s ∈ d,s.f2.length ≤ 1073741824)
 (hn : nold (units d) = f.length) (hu : (units d).length ≤ 1073741824) (hr : (run f (units d)).1.length ≤ 2147483648) : chanceryref1_After.f f d = some (run f (units d)).1:=by
 have hdl:=units_len hok
 unfold chanceryref1_After.f
 rw [if_pos ⟨by rw [wtL_units hok];exact hu,by omega⟩]
 obtain ⟨h1,h2,h3⟩:=actR_len (units d)
 have hk : ∀ t,Un.keep t ∈ units d → VA true t ∧ t.length ≤ 1073741824:=fun t ht => by
  obtain ⟨s,hs,h⟩:=List.mem_flatMap.1 ht
  rcases hok s hs with o | o | o
  ·rw [us_keep o.1] at h
   obtain ⟨_,h⟩:=List.mem_replicate.1 h
   injection h with h
   rw [h]
   exact ⟨o.2.2.2.2,hd s hs⟩
  ·rw [us_add o.1] at h
   obtain ⟨y,_,h⟩:=List.mem_map.1 h
   cases h
  ·rw [us_cut o.1] at h
   obtain ⟨_,h⟩:=List.mem_replicate.1 h
   cases h
 have h:=done_l0 f ((actR (units d)).1 :: (actR (units d)).2.1) (actR (units d)).2.2.1 (actR (units d)).2.2.2 hf (actR_mem (P:=fun t => VA true t ∧ t.length ≤ 1073741824) ⟨va_nil true,by simp⟩ _ hk) hl (by simp;omega) (by omega) (by omega) f.length 0 [] (by omega)
 have e : doneP (f.drop 0) (((actR (units d)).1 :: (actR (units d)).2.1).getD 0 []) (((actR (units d)).1 :: (actR (units d)).2.1).drop (0 + 1)) ((actR (units d)).2.2.1.drop 0) ((actR (units d)).2.2.2.drop 0) = (run f (units d)).1:=done_run (units d) f hn
 rw [e,List.nil_append] at h
 refine ever_of ?_
 rw [actA_R d hok]
 exact h (by simpa using hr)
abbrev ADD : ByteArray:=⟨#[97,100,100]⟩
abbrev CUT : ByteArray:=⟨#[99,117,116]⟩
abbrev HID : ByteArray:=⟨#[104,105,100,100,101,110]⟩
theorem add_list : ADD.toList = [97,100,100]:=by rw [ByteArray.toList_eq]
theorem cut_list : CUT.toList = [99,117,116]:=by rw [ByteArray.toList_eq]
def mk (x : S26) (n : ByteArray) : Bool:=!((look x.f2 n.toList).getD []).isEmpty
theorem mk_get {x : S26} {n b : ByteArray} (h : b.toList = (look x.f2 n.toList).getD []) : mk x n = !b.toList.isEmpty:=by rw [mk,h]
theorem mk_nil {x : S26} {n b : ByteArray} (h : b.toList = (look x.f2 n.toList).getD []) (e : b.toList = []) : mk x n = false:=by rw [mk_get h,e];rfl
theorem mk_cons {x : S26} {n b : ByteArray} (h : b.toList = (look x.f2 n.toList).getD []) (e : b.toList ≠ []) : mk x n = true:=by
 rw [mk_get h]
 cases hb : b.toList with
 | nil => exact absurd hb e
 | cons _ _ => rfl
theorem changes_l0 (f : List S26) (hs : FSmall f) (d : Nat) : ∀ (i : Nat) (out : List S44),i + d = f.length → out.length ≤ i →
 ∃ c : List S44,Ev (fun k => track_Changes.l0 k f out f (f.length : Int) (i : Int)) (c,0) ∧ (c = [] → out = [] ∧ ∀ x ∈ f.drop i,mk x ADD = false ∧ mk x CUT = false):=by
 induction d with
 | zero =>
  intro i out hi ho
  refine ⟨out,Ev.step (f:=fun _ => some (out,0)) (fun k => ?_) (Ev.now _),fun h => ⟨h,fun x hx => ?_⟩⟩
  ·simp only [track_Changes.l0]
   rw [if_neg (by omega)]
  ·rw [List.drop_eq_nil_of_le (by omega)] at hx
   cases hx
 | succ d ih =>
  intro i out hi ho
  have hs1:=hs.1
  obtain ⟨x,hx⟩ : ∃ x,x = rd_T26 f (i : Int):=⟨_,rfl⟩
  have hdf : f.drop i = x :: f.drop (i + 1):=by rw [hx];exact drop_any z26 f i (by omega)
  have hxs:=hs.2 x (hx ▸ rdf_mem (by omega) (by omega))
  obtain ⟨ba,ea,ha⟩:=get_ev x.f2 ADD (by omega)
  obtain ⟨bc,ec,hc⟩:=get_ev x.f2 CUT (by omega)
  have hw : wrap64 ((i : Int) + 1) = ((i + 1 : Nat) : Int):=by rw [wrap_up (by omega) (by omega)];rfl
  have e0 : ∀ k,track_Changes.l0 (k + 1) f out f (f.length : Int) (i : Int) = (attr_Get.f k x.f2 ADD).bind fun t361 => (attr_Get.f k x.f2 CUT).bind fun t362 => if t361.toList = [] then track_Changes.j1 k f out (i : Int) t361 t362 f (f.length : Int) (i : Int) (t362.toList == []) else track_Changes.j1 k f out (i : Int) t361 t362 f (f.length : Int) (i : Int) false:=fun k => by
   simp only [track_Changes.l0]
   rw [if_pos (by omega),if_pos (by omega),if_pos (by omega),← hx]
  by_cases hb : ba.toList = [] ∧ bc.toList = []
  ·obtain ⟨c,hcv,hcn⟩:=ih (i + 1) out (by omega) (by omega)
   refine ⟨c,Ev.step e0 (Ev.bind ea (Ev.bind ec (Ev.congr (fun k => by rw [if_pos hb.1,hb.2]) (Ev.step (f:=fun k => track_Changes.l0 k f out f (f.length : Int) ((i + 1 : Nat) : Int)) (fun k => ?_) hcv)))),fun h => ⟨(hcn h).1,fun y hy => ?_⟩⟩
   ·show track_Changes.j1 (k + 1) f out (i : Int) ba bc f (f.length : Int) (i : Int) true = _
    simp only [track_Changes.j1,if_true,hw]
   ·rw [hdf] at hy
    rcases List.mem_cons.1 hy with rfl | hy
    ·exact ⟨mk_nil ha hb.1,mk_nil hc hb.2⟩
    ·exact (hcn h).2 y hy
  ·have A : ∃ c,Ev (fun k => if out.length < 8796093022208 then track_Changes.l0 k f (out ++ [(⟨(i : Int),wrap64 ((i : Int) + 1)⟩ : S44)]) f (f.length : Int) (wrap64 ((i : Int) + 1)) else none) (c,(0 : Int)) ∧ c ≠ []:=by
    obtain ⟨c,hcv,hcn⟩:=ih (i + 1) (out ++ [(⟨(i : Int),wrap64 ((i : Int) + 1)⟩ : S44)]) (by omega) (by simp;omega)
    refine ⟨c,Ev.congr (fun k => ?_) hcv,fun h => by simpa using (hcn h).1⟩
    rw [if_pos (by omega)]
    conv => lhs;rw [hw]
    conv => rhs;rw [hw]
   have B : ∀ (n : Nat) (z : S44),0 < out.length → ∃ c,Ev (fun k => track_Changes.l0 k f (out.set n z) f (f.length : Int) (wrap64 ((i : Int) + 1))) (c,(0 : Int)) ∧ c ≠ []:=fun n z h0 => by
    obtain ⟨c,hcv,hcn⟩:=ih (i + 1) (out.set n z) (by omega) (by rw [List.length_set];omega)
    refine ⟨c,Ev.congr (fun k => by rw [hw]) hcv,fun h => ?_⟩
    have:=congrArg List.length (hcn h).1
    rw [List.length_set,List.length_nil] at this
    omega
   have C : ∃ c,Ev (fun k => track_Changes.j1 k f out (i : Int) ba bc f (f.length : Int) (i : Int) false) (c,(0 : Int)) ∧ c ≠ []:=by
    by_cases h0 : out.length = 0
    ·obtain ⟨c,hcv,hcn⟩:=A
     refine ⟨c,Ev.step (fun k => ?_) hcv,hcn⟩
     simp only [track_Changes.j1]
     rw [if_neg (by decide),if_neg (by rw [h0];unfold wrap64;omega)]
    ·have hwl : wrap64 ((out.length : Int) - 1) = (out.length : Int) - 1:=wrap_dn (by omega) (by omega)
     have hwi : wrap64 ((i : Int) - 1) = (i : Int) - 1:=wrap_dn (by omega) (by omega)
     by_cases hq : (rd_T44 out ((out.length : Int) - 1)).f1 = (i : Int)
     ·have hys:=hs.2 (rd_T26 f ((i : Int) - 1)) (rdf_mem (by omega) (by omega))
      obtain ⟨b1,e1,h1⟩:=get_ev (rd_T26 f ((i : Int) - 1)).f2 ADD (by omega)
      obtain ⟨b2,e2,h2⟩:=get_ev (rd_T26 f ((i : Int) - 1)).f2 CUT (by omega)
      by_cases q1 : b1.toList = ba.toList
      ·by_cases q2 : b2.toList = bc.toList
       ·obtain ⟨c,hcv,hcn⟩:=B ((out.length : Int) - 1).toNat ⟨(rd_T44 out ((out.length : Int) - 1)).f0,wrap64 ((rd_T44 out ((out.length : Int) - 1)).f1 + 1)⟩ (by omega)
        refine ⟨c,Ev.step (fun k => by simp only [track_Changes.j1];rw [if_neg (by decide),hwl,if_pos (by omega),if_pos (by omega),if_pos (by omega),if_pos hq,hwi,if_pos (by omega),if_pos (by omega)]) (Ev.bind e1 (Ev.congr (fun k => by rw [if_pos q1]) (Ev.bind e2 (Ev.congr (fun k => by rw [if_pos q2]) hcv)))),hcn⟩
       ·obtain ⟨c,hcv,hcn⟩:=A
        refine ⟨c,Ev.step (fun k => by simp only [track_Changes.j1];rw [if_neg (by decide),hwl,if_pos (by omega),if_pos (by omega),if_pos (by omega),if_pos hq,hwi,if_pos (by omega),if_pos (by omega)]) (Ev.bind e1 (Ev.congr (fun k => by rw [if_pos q1]) (Ev.bind e2 (Ev.congr (fun k => by rw [if_neg q2]) hcv)))),hcn⟩
      ·obtain ⟨c,hcv,hcn⟩:=A
       refine ⟨c,Ev.step (fun k => by simp only [track_Changes.j1];rw [if_neg (by decide),hwl,if_pos (by omega),if_pos (by omega),if_pos (by omega),if_pos hq,hwi,if_pos (by omega),if_pos (by omega)]) (Ev.bind e1 (Ev.congr (fun k => by rw [if_neg q1]) hcv)),hcn⟩
     ·obtain ⟨c,hcv,hcn⟩:=A
      refine ⟨c,Ev.step (fun k => ?_) hcv,hcn⟩
      simp only [track_Changes.j1]
      rw [if_neg (by decide),hwl,if_pos (by omega),if_pos (by omega),if_pos (by omega),if_neg hq]
   obtain ⟨c,hcv,hcn⟩:=C
   refine ⟨c,Ev.step e0 (Ev.bind ea (Ev.bind ec (Ev.congr (fun k => ?_) hcv))),fun h => absurd h hcn⟩
   by_cases h1 : ba.toList = []
   ·rw [if_pos h1,show (bc.toList == []) = false from beq_eq_false_iff_ne.mpr (fun e => hb ⟨h1,e⟩)]
   ·rw [if_neg h1]
theorem changes_ev {f : List S26} (hs : FSmall f) (hp : POK f) : ∃ c : List S44,Ev (fun k => track_Changes.f k f) (c,0) ∧ (c = [] → ∀ x ∈ f,mk x ADD = false ∧ mk x CUT = false):=by
 obtain ⟨r,hr,hri⟩:=part_ev f hs
 obtain rfl:=hri.2 hp
 obtain ⟨c,hc,hn⟩:=changes_l0 f hs f.length 0 [] (by omega) (Nat.le_refl _)
 exact ⟨c,Ev.bind hr (Ev.congr (fun k => by rw [if_pos rfl];rfl) hc),fun h => (hn h).2⟩
def Hides (m : Int) (n : ByteArray) : Prop:=(m = 0 ∧ n = CUT) ∨ (m = 1 ∧ n = ADD)
theorem hidden_ev {x : S26} {m : Int} {n : ByteArray} (hm : Hides m n) (hl : x.f2.length ≤ 1099511627776) (hh : look x.f2 HID.toList = none) : Ev (fun k => track_Hidden.f k x.f0 x.f1 x.f2 m) (mk x n):=by
 obtain ⟨bh,eh,h1⟩:=get_ev x.f2 HID hl
 rw [hh] at h1
 obtain ⟨b,e,h⟩:=get_ev x.f2 n hl
 refine Ev.bind eh (Ev.congr (g:=fun k => _) (fun k => by rw [if_neg (by rw [h1];simp)]) ?_)
 rcases hm with ⟨rfl,rfl⟩ | ⟨rfl,rfl⟩
 ·refine Ev.congr (fun k => by rw [if_pos rfl]) (Ev.bind e (Ev.congr (f:=fun _ => some (mk x CUT)) (fun k => ?_) (Ev.now _)))
  by_cases hb : b.toList = []
  ·rw [if_pos hb,if_neg (by decide),mk_nil h hb]
  ·rw [if_neg hb,mk_cons h hb]
 ·refine Ev.congr (fun k => by rw [if_neg (by decide),if_pos rfl]) (Ev.bind e (Ev.congr (f:=fun _ => some (mk x ADD)) (fun k => ?_) (Ev.now _)))
  rw [mk_get h]
  cases b.toList <;> rfl
def plc (n : ByteArray) : Nat → List S26 → List Int
 | _,[] => []
 | i,x :: r => (if mk x n = true ∧ r ≠ [] then [] else [(i : Int)]) ++ plc n (i + 1) r
theorem places_l0 {f : List S26} {m : Int} {n : ByteArray} (hm : Hides m n) (hs : FSmall f) (hla : LastOK f) (hh : ∀ x ∈ f,look x.f2 HID.toList = none) (d : Nat) : ∀ (i : Nat) (out : List Int),i + d = f.length → out.length ≤ i →
 Ev (fun k => track_Places.l0 k f m out f (f.length : Int) (i : Int)) (out ++ plc n i (f.drop i)):=by
 induction d with
 | zero =>
  intro i out hi ho
  rw [List.drop_eq_nil_of_le (by omega),plc,List.append_nil]
  refine Ev.step (f:=fun _ => some out) (fun k => ?_) (Ev.now _)
  simp only [track_Places.l0]
  rw [if_neg (by omega)]
 | succ d ih =>
  intro i out hi ho
  have hs1:=hs.1
  obtain ⟨x,hx⟩ : ∃ x,x = rd_T26 f (i : Int):=⟨_,rfl⟩
  have hdf : f.drop i = x :: f.drop (i + 1):=by rw [hx];exact drop_any z26 f i (by omega)
  have hxm : x ∈ f:=hx ▸ rdf_mem (by omega) (by omega)
  have hxs:=hs.2 x hxm
  have hw : wrap64 ((i : Int) + 1) = ((i + 1 : Nat) : Int):=by rw [wrap_up (by omega) (by omega)];rfl
  have hwl : wrap64 ((f.length : Int) - 1) = (f.length : Int) - 1:=wrap_dn (by omega) (by omega)
  have hne : f.drop (i + 1) ≠ [] ↔ i + 1 < f.length:=by
   constructor
   ·intro h
    exact Nat.lt_of_not_le (fun e => h (List.drop_eq_nil_of_le e))
   ·intro h e
    have:=congrArg List.length e
    rw [List.length_drop,List.length_nil] at this
    omega
  have e0 : ∀ k,track_Places.l0 (k + 1) f m out f (f.length : Int) (i : Int) = (track_Hidden.f k x.f0 x.f1 x.f2 m).bind fun t123 => (if t123 = true then (if (i : Int) = (f.length : Int) - 1 then (if x.f0 = 10 then (if out.length < 17592186044416 then (track_Places.l0 k f m (out ++ [(i : Int)]) f (f.length : Int) ((i + 1 : Nat) : Int)) else (none)) else (track_Places.l0 k f m out f (f.length : Int) ((i + 1 : Nat) : Int))) else (track_Places.l0 k f m out f (f.length : Int) ((i + 1 : Nat) : Int))) else (if out.length < 17592186044416 then (track_Places.l0 k f m (out ++ [(i : Int)]) f (f.length : Int) ((i + 1 : Nat) : Int)) else (none))):=fun k => by
   simp only [track_Places.l0]
   rw [if_pos (by omega),if_pos (by omega),if_pos (by omega),← hx,hwl,hw]
  rw [hdf,plc]
  have hI:=hidden_ev hm (by omega) (hh x hxm)
  have h1:=ih (i + 1) (out ++ [(i : Int)]) (by omega) (by simp;omega)
  rw [List.append_assoc] at h1
  by_cases hk : mk x n = true
  ·rw [hk] at hI
   by_cases hlast : i + 1 < f.length
   ·rw [if_pos ⟨hk,hne.2 hlast⟩,List.nil_append]
    exact Ev.step e0 (Ev.bind hI (Ev.congr (fun k => by rw [if_pos rfl,if_neg (by omega)]) (ih (i + 1) out (by omega) (by omega))))
   ·rw [if_neg (fun h => hlast (hne.1 h.2))]
    have hi1 : (i : Int) = (f.length : Int) - 1:=by omega
    have hx10 : x.f0 = 10:=by rw [hx,hi1];exact hla.2
    exact Ev.step e0 (Ev.bind hI (Ev.congr (fun k => by rw [if_pos rfl,if_pos hi1,if_pos hx10,if_pos (by omega)]) h1))
  ·rw [if_neg (fun h => hk h.1)]
   rw [Bool.eq_false_iff.mpr hk] at hI
   exact Ev.step e0 (Ev.bind hI (Ev.congr (fun k => by rw [if_neg (by decide),if_pos (by omega)]) h1))
theorem shown_ev {f : List S26} {m : Int} {n : ByteArray} (hm : Hides m n) (hs : FSmall f) (hp : POK f) (hla : LastOK f) (hh : ∀ x ∈ f,look x.f2 HID.toList = none) : Ev (fun k => track_Shown.f k f m) (plc n 0 f,0):=by
 obtain ⟨r,hr,hri⟩:=part_ev f hs
 obtain rfl:=hri.2 hp
 have h:=places_l0 hm hs hla hh f.length 0 [] (by omega) (Nat.le_refl _)
 rw [List.nil_append,List.drop_zero] at h
 have hm0 : 0 ≤ m ∧ m ≤ 2:=by rcases hm with ⟨h,_⟩ | ⟨h,_⟩ <;> omega
 have h' : Ev (fun k => track_Places.f k f m) (plc n 0 f):=h
 refine Ev.bind hr (Ev.congr (g:=fun k => _) (f:=fun k => (track_Places.f k f m).bind fun t131 => some (t131,(0 : Int))) (fun k => by rw [if_pos rfl,if_neg (by omega),if_neg (by omega)]) (Ev.bind h' (Ev.now _)))
end Go.Proofs.Ytlcodfjlbhjkbaa.PDelta
end
section
namespace Go.Proofs.Ytlcodfjlbhjkbaa.PDelta
open Go.RowKit Go.Proofs.YtlcodfjlbhjkbaaW.PrintWords Go.Proofs.YtlcodfjlbhjkbaaW.PrintLast Go.Proofs.YtlcodfjlbhjkbaaW.PrintMore
end Go.Proofs.Ytlcodfjlbhjkbaa.PDelta
end
section
namespace Go.Proofs.Ytlcodfjlbhjkbaa.PDelta
open Go.RowKit Go.Proofs.YtlcodfjlbhjkbaaW.PrintWords Go.Proofs.YtlcodfjlbhjkbaaW.PrintLast Go.Proofs.YtlcodfjlbhjkbaaW.PrintMore
theorem tidy_gen {A : Nat} (hA : A ≤ 1073741824) : ∀ (ss : List S95) (s : WD),WF A s → (∀ x ∈ ss,StepOK x ∧ SAt A x) → (wu s).length + (units ss).length ≤ 1073741824 →
 ∃ o,Ev (fun k => tidyL k ss s) (o,0) ∧ FO A o ∧ E (units o) (wu s ++ units ss)
 | [],s,h,_,hl => by
  obtain ⟨o,e,fo,eu⟩:=done_spec h hA (by simp [units_nil] at hl;omega)
  exact ⟨o,e,fo,by rw [eu,units_nil,List.append_nil];exact E.refl _⟩
 | x :: ss,s,h,hok,hl => by
  have hok' : ∀ y ∈ ss,StepOK y ∧ SAt A y:=fun y hy => hok y (List.mem_cons_of_mem _ hy)
  rw [units_cons,List.length_append] at hl
  obtain ⟨hx,hxa⟩:=hok x List.mem_cons_self
  have hul:=us_len hx
  have hsm : SSm x:=stepok_small (n:=1073741824) hx (Nat.le_trans hxa.1 hA) ⟨by omega,fun y hy => Nat.le_trans (hxa.2 y hy) hA⟩ (Nat.le_refl _)
  obtain ⟨r0,hr0,hri⟩:=step_ev x hsm
  obtain rfl:=hri.2 hx
  have hE : ∀ k,tidyE k x 0 = some 0:=fun k => by unfold tidyE;rw [if_neg (by unfold tidyC;split <;> simp)]
  have e : ∀ k,tidyL k (x :: ss) s = (delta_step.f k x.f0 x.f1 x.f2 x.f3).bind fun e0 => (tidyE k x e0).bind fun e => if e ≠ 0 then some ([],e) else if x.f0 = 0 then (keepF k s x.f1 x.f2).bind (tidyL k ss) else if x.f0 = 1 then (elemsF k s x.f3).bind (tidyL k ss) else if wrap64 (s.cut + x.f1) > 2147483647 then some ([],3) else tidyL k ss ⟨s.out,s.add,wrap64 (s.cut + x.f1)⟩:=fun k => rfl
  rcases hx with hk | hk | hk
  ·obtain ⟨s1,e1,w1,u1⟩:=keep_spec x.f1 x.f2 h hk.2.2.2.2 hxa.1 hA hk.2.1 (by rw [us_keep hk.1,List.length_replicate] at hl;omega)
   obtain ⟨o,e2,fo,eu⟩:=tidy_gen hA ss s1 w1 hok' (by rw [u1,List.length_append,List.length_replicate];rw [us_keep hk.1,List.length_replicate] at hl;omega)
   exact ⟨o,Ev.congr e (Ev.bind hr0 (Ev.congr (fun k => by rw [hE,Option.bind_some,if_neg (by decide),if_pos hk.1]) (Ev.bind e1 e2))),fo,by rw [units_cons,us_keep hk.1,← List.append_assoc,← u1];exact eu⟩
  ·obtain ⟨s1,e1,w1,u1⟩:=elems_spec x.f3 h hk.2.2.2.2 hxa.2 hA (by rw [us_add hk.1,List.length_map] at hl;omega)
   have hwl:=u1.len
   rw [List.length_append,List.length_map] at hwl
   obtain ⟨o,e2,fo,eu⟩:=tidy_gen hA ss s1 w1 hok' (by rw [us_add hk.1,List.length_map] at hl;omega)
   exact ⟨o,Ev.congr e (Ev.bind hr0 (Ev.congr (fun k => by rw [hE,Option.bind_some,if_neg (by decide),if_neg (by omega),if_pos hk.1]) (Ev.bind e1 e2))),fo,by rw [units_cons,us_add hk.1,← List.append_assoc];exact eu.trans (u1.app (E.refl _))⟩
  ·have hwl:=wu_len s
   have hsc:=h.cut
   have hxl : x.f1.toNat ≤ 1073741824:=by rw [us_cut hk.1,List.length_replicate] at hl;omega
   obtain ⟨w1,u1⟩:=cut_spec x.f1 h (by omega)
   obtain ⟨o,e2,fo,eu⟩:=tidy_gen hA ss ⟨s.out,s.add,s.cut + x.f1⟩ w1 hok' (by rw [u1,List.length_append,List.length_replicate];rw [us_cut hk.1,List.length_replicate] at hl;omega)
   have hb : s.cut + x.f1 ≤ 1073741824:=by rw [us_cut hk.1,List.length_replicate] at hl;omega
   exact ⟨o,Ev.congr e (Ev.bind hr0 (Ev.congr (fun k => by rw [hE,Option.bind_some,if_neg (by decide),if_neg (by omega),if_neg (by omega),w64 (by omega) (by omega),if_neg (by omega)]) e2)),fo,by rw [units_cons,us_cut hk.1,← List.append_assoc,← u1];exact eu⟩
end Go.Proofs.Ytlcodfjlbhjkbaa.PDelta
end

/- Parts of the proof of Track: nothing is claimed here by itself. -/
import Derived.Test.YtlcodfjlbhjkbaaKTrack5
import Derived.StillTailTactics
set_option linter.unusedVariables false
set_option linter.unusedSimpArgs false
section
namespace Go.Proofs.Ytlcodfjlbhjkbaa.PDelta
open Go.RowKit Go.Proofs.YtlcodfjlbhjkbaaW.PrintWords Go.Proofs.YtlcodfjlbhjkbaaW.PrintLast Go.Proofs.YtlcodfjlbhjkbaaW.PrintMore
attribute [local go_sem] max2_int min2_int max_two min_two max_three min_three max_four min_four
attribute [local go_sem high] Go.Proofs.Ytlcodfjlbhjkbaa.Ord.leq_str Go.Proofs.Ytlcodfjlbhjkbaa.Ord.gtr_str Go.Proofs.Ytlcodfjlbhjkbaa.Ord.geq_str
mutual
def track_Changes.l0 : Nat → List (S26) → List (S44) → List (S26) → Int → Int → Option ((List (S44)) × Int)
 | 0,_,_,_,_,_ => none
 | k + 1,x0,x5,x16,x17,x18 => if x18 < x17 then (if 0 ≤ x18 then (if x18 < (x16.length : Int) then ((attr_Get.f k ((rd_T26 x16 x18).f2) (⟨#[97,100,100]⟩ : ByteArray)).bind fun t361 => ((attr_Get.f k ((rd_T26 x16 x18).f2) (⟨#[99,117,116]⟩ : ByteArray)).bind fun t362 => (if t361.toList = ([] : List UInt8) then (track_Changes.j1 k x0 x5 x18 t361 t362 x16 x17 x18 (t362.toList == ([] : List UInt8))) else (track_Changes.j1 k x0 x5 x18 t361 t362 x16 x17 x18 false)))) else (none)) else (none)) else (some (x5,0))
def track_Changes.j1 : Nat → List (S26) → List (S44) → Int → ByteArray → ByteArray → List (S26) → Int → Int → Bool → Option ((List (S44)) × Int)
 | 0,_,_,_,_,_,_,_,_,_ => none
 | k + 1,x0,x5,x6,x8,x9,x16,x17,x18,x34 => if x34 = true then (track_Changes.l0 k x0 x5 x16 x17 (wrap64 (x18 + 1))) else (if (wrap64 ((x5.length : Int) - 1)) ≥ 0 then (if 0 ≤ (wrap64 ((x5.length : Int) - 1)) then (if (wrap64 ((x5.length : Int) - 1)) < (x5.length : Int) then (if ((rd_T44 x5 (wrap64 ((x5.length : Int) - 1))).f1) = x6 then (if 0 ≤ (wrap64 (x6 - 1)) then (if (wrap64 (x6 - 1)) < (x0.length : Int) then ((attr_Get.f k ((rd_T26 x0 (wrap64 (x6 - 1))).f2) (⟨#[97,100,100]⟩ : ByteArray)).bind fun t365 => (if t365.toList = x8.toList then ((attr_Get.f k ((rd_T26 x0 (wrap64 (x6 - 1))).f2) (⟨#[99,117,116]⟩ : ByteArray)).bind fun t367 => (if t367.toList = x9.toList then (track_Changes.l0 k x0 (x5.set ((wrap64 ((x5.length : Int) - 1)) : Int).toNat (⟨(rd_T44 x5 (wrap64 ((x5.length : Int) - 1))).f0,wrap64 (((rd_T44 x5 (wrap64 ((x5.length : Int) - 1))).f1) + 1)⟩ : S44)) x16 x17 (wrap64 (x18 + 1))) else (if x5.length < 8796093022208 then (track_Changes.l0 k x0 (x5 ++ [(⟨x6,wrap64 (x6 + 1)⟩ : S44)]) x16 x17 (wrap64 (x18 + 1))) else (none)))) else (if x5.length < 8796093022208 then (track_Changes.l0 k x0 (x5 ++ [(⟨x6,wrap64 (x6 + 1)⟩ : S44)]) x16 x17 (wrap64 (x18 + 1))) else (none)))) else (none)) else (none)) else (if x5.length < 8796093022208 then (track_Changes.l0 k x0 (x5 ++ [(⟨x6,wrap64 (x6 + 1)⟩ : S44)]) x16 x17 (wrap64 (x18 + 1))) else (none))) else (none)) else (none)) else (if x5.length < 8796093022208 then (track_Changes.l0 k x0 (x5 ++ [(⟨x6,wrap64 (x6 + 1)⟩ : S44)]) x16 x17 (wrap64 (x18 + 1))) else (none)))
end
def track_Changes.f (k : Nat) (l0 : List (S26)) : Option ((List (S44)) × Int):=(flow_CheckPart.f k l0).bind fun t358 => (if t358 = 0 then (track_Changes.l0 k l0 ([] : List (S44)) l0 (l0.length : Int) 0) else (some (([] : List (S44)),t358)))
def track_Changes.T8 : Bool × List (List Nat × List Nat):=(true,[([],[]),([0],[0]),([1],[1]),([],[]),([3],[3]),([4,2],[4]),([2,5,0,1,2],[2]),([5,6,0,1,2,3,4,5,6],[5])])
def track_Changes.B8 : List Nat:=[0,1,3,0,8,31,63,127]
theorem track_Changes.tab8 : rtab .any (opsOf Try.f51 8) = track_Changes.T8:=by kernel_rfl
theorem track_Changes.bits8 : waitsOk track_Changes.T8.2 track_Changes.B8 = true:=by kernel_rfl
set_option maxHeartbeats 8000000 in
set_option maxRecDepth 100000 in
theorem track_Changes.calls (k : Nat) (A0 : Option Addr) (c0 : Nat) (l0 : List (S26)) (r1 : List (S44)) (r2 : Int) (w : World) (hr0 : Kd.C k26 w A0 l0.length l0) (hc0 : l0.length ≤ c0) (h : track_Changes.f k l0 = some (r1,r2)) :
 Calls Try.prog 51 #[.slice A0 l0.length c0] w fun e w' => ∃ v0_ : Value,e = .returned (.tuple #[v0_,.int .i64 r2]) ∧ Kd.R k44 44 w' w.heap.size (fun _ => True) v0_ r1 ∧ Below w.heap.size w w':=by
 have hu26:=Try.underlying26
 have hu44:=Try.underlying44
 have HR0:=Aside0.mk hr0
 have HC0:=Aside0.mk hc0
 clear hr0 hc0
 have HB:=Aside0.mk (Below.refl w.heap.size w)
 have H : ((flow_CheckPart.f k l0).bind fun t358 => (if t358 = 0 then (track_Changes.l0 k l0 ([] : List (S44)) l0 (l0.length : Int) 0) else (some (([] : List (S44)),t358)))) = some (r1,r2):=h
 clear h
 replace H:=Option.bind_eq_some_iff.mp H
 obtain ⟨t358,A20,H⟩:=H
 replace H : (if t358 = 0 then (track_Changes.l0 k l0 ([] : List (S44)) l0 (l0.length : Int) 0) else (some (([] : List (S44)),t358))) = some (r1,r2):=H
 have A2:=Aside0.mk A20
 clear A20
 by_cases c3 : t358 = 0
 ·rw [if_pos c3] at H
  have c3b0 : (t358 == 0) = true:=beq_iff_eq.mpr c3
  have c3b1 : (t358 != 0) = false:=bne_eq_false_iff_eq.mpr c3
  clear c3
  have H':=Aside0.mk H
  clear H
  go_enter Try.func51,Try.ntmps51
  go_wp2_with (((with_reducible refine gate_callee (f:=61) rfl ?_);refine goesL_ (some 12) rfl rfl Try.func61 (by kernel_rfl) rfl #[.slice A0 l0.length c0] rfl (by (try simp only [List.map_toArray,List.map_cons,List.map_nil]);rfl) ?_;(with_reducible refine (flow_CheckPart.calls k _ _ l0 t358 _ ?side1 ?side2 A2.out).mono ?_);(case side1 => repeat (exact HR0.out));(case side2 => exact HC0.out);rintro e w4 ⟨rfl,hb⟩;refine ⟨_,rfl,?_⟩;replace HB:=Aside0.mk (below_step (by with_reducible exact HB.out) hb);(try clear hb);(try clear hb2);(try clear hk);(try clear hi)))
  go_loopg [5,18] k (fun kq v5 v18 w' => ∃ (x5_1 : List (S44)) (x18_1 : Int),v18 = .int .i64 x18_1 ∧ Aside0 (track_Changes.l0 kq l0 x5_1 l0 (l0.length : Int) x18_1 = some (r1,r2)) ∧ Aside0 (kq ≤ k) ∧ Aside0 (Kd.R k44 44 w' w.heap.size (fun _ => True) v5 x5_1) ∧ Aside0 (Below w.heap.size w w'))
  case atStart => exact ⟨(([] : List (S44))),(0),(by rfl),H',⟨Nat.le_refl _⟩,⟨by exact Kd.R_nil _ _ _ _ _⟩,⟨HB.out⟩⟩
  case round =>
   clear H'
   try clear c3b0
   try clear c3b1
   obtain ⟨x5_1,x18_1,rfl,HA,HK1,HO_5,HB⟩:=hrel
   cases gk with
   | zero => exact absurd HA.out (by simp [track_Changes.l0])
   | succ k1 =>
    have H:=HA.out
    clear HA
    simp only [track_Changes.l0] at H
    by_cases c5 : x18_1 < (l0.length : Int)
    ·rw [if_pos c5] at H
     have c5b0 : decide (x18_1 < (l0.length : Int)) = true:=decide_eq_true c5
     clear c5
     by_cases c6 : 0 ≤ x18_1
     ·rw [if_pos c6] at H
      have c6b0 : decide (0 ≤ x18_1) = true:=decide_eq_true c6
      clear c6
      by_cases c7 : x18_1 < (l0.length : Int)
      ·rw [if_pos c7] at H
       have c7b0 : decide (x18_1 < (l0.length : Int)) = true:=decide_eq_true c7
       clear c7
       replace H:=Option.bind_eq_some_iff.mp H
       obtain ⟨t361,A80,H⟩:=H
       replace H : ((attr_Get.f k1 ((rd_T26 l0 x18_1).f2) (⟨#[99,117,116]⟩ : ByteArray)).bind fun t362 => (if t361.toList = ([] : List UInt8) then (track_Changes.j1 k1 l0 x5_1 x18_1 t361 t362 l0 (l0.length : Int) x18_1 (t362.toList == ([] : List UInt8))) else (track_Changes.j1 k1 l0 x5_1 x18_1 t361 t362 l0 (l0.length : Int) x18_1 false))) = some (r1,r2):=H
       have A8:=Aside0.mk A80
       clear A80
       replace H:=Option.bind_eq_some_iff.mp H
       obtain ⟨t362,A90,H⟩:=H
       replace H : (if t361.toList = ([] : List UInt8) then (track_Changes.j1 k1 l0 x5_1 x18_1 t361 t362 l0 (l0.length : Int) x18_1 (t362.toList == ([] : List UInt8))) else (track_Changes.j1 k1 l0 x5_1 x18_1 t361 t362 l0 (l0.length : Int) x18_1 false)) = some (r1,r2):=H
       have A9:=Aside0.mk A90
       clear A90
       have HC10:=Aside0.mk H
       clear H
       have p359 : 0 ≤ (x18_1 : Int):=of_decide_eq_true (by assumption)
       have q359 : x18_1 < (l0.length : Int):=of_decide_eq_true (by assumption)
       obtain ⟨ad359,A359_2,c359_2,e359,hx359_0,hx359_1,hx359_2,hl359_2,hi359_2⟩:=at_T26 HR0.out x18_1 p359 q359
       cases e359
       replace hx359_0:=(HB.out.cell (World.block_lt_of_cell? w _ hx359_0)).trans hx359_0
       replace hx359_1:=(HB.out.cell (World.block_lt_of_cell? w _ hx359_1)).trans hx359_1
       replace hx359_2:=(HB.out.cell (World.block_lt_of_cell? w _ hx359_2)).trans hx359_2
       have HR359_2:=Aside0.mk hi359_2
       have HC359_2:=Aside0.mk hl359_2
       clear hi359_2 hl359_2
       replace p359:=eq_true p359
       replace q359:=eq_true q359
       try go_wp2_with (((with_reducible refine gate_dst (N:=7) rfl ?_);refine box_event ?hg (N:=7) ?hd (cs:=#[.int .i64 0,.int .i64 0,.slice none 0 0]) (t:=26) ?hr ?_;(case hd => rfl);(case hg => rfl);(case hr => (go_simp;done));intro gb360 hg w11 hbox hb;have n0_:=Aside0.mk (Kd.R_below HO_5.out hb);have n1_:=Aside0.mk (below_step (by with_reducible exact HB.out) hb);have n2_:=Aside0.mk hbox;have n3_:=Aside0.mk ((by rw [hg];exact (below_size (by with_reducible exact HB.out)) : w.heap.size ≤ gb360));have n4_:=Aside0.mk ((by rw [hg];exact (below_size (by with_reducible exact HB.out)) : w.heap.size ≤ gb360));clear HO_5;clear HB;have HO_5:=n0_;have HB:=n1_;have BK360:=n2_;have GW360:=n3_;have GE360:=n4_;clear n0_ n1_ n2_ n3_ n4_;clear hb hbox hg;have hcz12_0 : w11.cell? ⟨gb360,0,none⟩ = some (.int .i64 0):=(blk_cell BK360.out 0).trans rfl;have hcz12_1 : w11.cell? ⟨gb360,1,none⟩ = some (.int .i64 0):=(blk_cell BK360.out 1).trans rfl;have hcz12_2 : w11.cell? ⟨gb360,2,none⟩ = some (.slice none 0 0):=(blk_cell BK360.out 2).trans rfl;have hfz12_0:=blk_frozen BK360.out 0;have hfz12_1:=blk_frozen BK360.out 1;have hfz12_2:=blk_frozen BK360.out 2))
       have n0_ : Aside0 (Kd.R k44 44 (((w11.setCell ⟨gb360,0,none⟩ (.int .i64 ((rd_T26 l0 x18_1).f0))).setCell ⟨gb360,1,none⟩ (.int .i64 ((rd_T26 l0 x18_1).f1))).setCell ⟨gb360,2,none⟩ (.slice A359_2 ((rd_T26 l0 x18_1).f2).length c359_2)) w.heap.size (fun _ => True) u5 x5_1):=⟨by exact Kd.R_mono (Kd.R_far (p:=⟨gb360,2,none⟩) (Kd.R_far (p:=⟨gb360,1,none⟩) (Kd.R_far (p:=⟨gb360,0,none⟩) (Kd.R_types HO_5.out BK360.out (by decide)) (fun _ hk => hk.2) (.int .i64 ((rd_T26 l0 x18_1).f0))) (fun _ hk => hk.2) (.int .i64 ((rd_T26 l0 x18_1).f1))) (fun _ hk => hk.2) (.slice A359_2 ((rd_T26 l0 x18_1).f2).length c359_2)) (fun _ hk => trivial)⟩
       have n1_ : Aside0 ((((w11.setCell ⟨gb360,0,none⟩ (.int .i64 ((rd_T26 l0 x18_1).f0))).setCell ⟨gb360,1,none⟩ (.int .i64 ((rd_T26 l0 x18_1).f1))).setCell ⟨gb360,2,none⟩ (.slice A359_2 ((rd_T26 l0 x18_1).f2).length c359_2)).heap[gb360]? = some (.cells #[.int .i64 ((rd_T26 l0 x18_1).f0),.int .i64 ((rd_T26 l0 x18_1).f1),.slice A359_2 ((rd_T26 l0 x18_1).f2).length c359_2] 26 (0,0))):=⟨by (with_reducible repeat (first | refine blk_drewN ?_ _ | refine blk_drew ?_ | refine blk_alloc ?_ _));refine blk_put (cs:=#[.int .i64 ((rd_T26 l0 x18_1).f0),.int .i64 ((rd_T26 l0 x18_1).f1),.slice none 0 0]) ?_ 2 _ rfl;(with_reducible repeat (first | refine blk_drewN ?_ _ | refine blk_drew ?_ | refine blk_alloc ?_ _));refine blk_put (cs:=#[.int .i64 ((rd_T26 l0 x18_1).f0),.int .i64 0,.slice none 0 0]) ?_ 1 _ rfl;(with_reducible repeat (first | refine blk_drewN ?_ _ | refine blk_drew ?_ | refine blk_alloc ?_ _));refine blk_put (cs:=#[.int .i64 0,.int .i64 0,.slice none 0 0]) ?_ 0 _ rfl;exact BK360.out⟩
       have n2_ : Aside0 (Below w.heap.size w (((w11.setCell ⟨gb360,0,none⟩ (.int .i64 ((rd_T26 l0 x18_1).f0))).setCell ⟨gb360,1,none⟩ (.int .i64 ((rd_T26 l0 x18_1).f1))).setCell ⟨gb360,2,none⟩ (.slice A359_2 ((rd_T26 l0 x18_1).f2).length c359_2))):=⟨by repeat ((with_reducible first | exact HB.out | refine below_set ?_ GE360.out))⟩
       (try clear HO_5)
       (try clear BK360)
       (try clear HB)
       generalize (((w11.setCell ⟨gb360,0,none⟩ (.int .i64 ((rd_T26 l0 x18_1).f0))).setCell ⟨gb360,1,none⟩ (.int .i64 ((rd_T26 l0 x18_1).f1))).setCell ⟨gb360,2,none⟩ (.slice A359_2 ((rd_T26 l0 x18_1).f2).length c359_2)) = w13 at n0_ n1_ n2_ ⊢
       have HO_5:=n0_
       have BK360:=n1_
       have HB:=n2_
       clear n0_ n1_ n2_
       have n0_:=Aside0.mk (Kd.R_drew HO_5.out)
       have n1_:=Aside0.mk (blk_drew BK360.out)
       have n2_:=Aside0.mk (below_drew1 HB.out)
       clear HO_5
       clear BK360
       clear HB
       have HO_5:=n0_
       have BK360:=n1_
       have HB:=n2_
       clear n0_ n1_ n2_
       refine start_ (n:=8) (S:=fun w' => w'.cell? ⟨gb360,0,none⟩ = some (.int .i64 ((rd_T26 l0 x18_1).f0)) ∧ w'.cell? ⟨gb360,1,none⟩ = some (.int .i64 ((rd_T26 l0 x18_1).f1)) ∧ w'.cell? ⟨gb360,2,none⟩ = some (.slice A359_2 ((rd_T26 l0 x18_1).f2).length c359_2)) (ds:=[]) #[false,false,false,false,false,false,false,false] (by kernel_rfl) rfl rfl ⟨(blk_cell BK360.out 0).trans rfl,(blk_cell BK360.out 1).trans rfl,(blk_cell BK360.out 2).trans rfl⟩ (fun hHeld => ?_);refine with_tabW track_Changes.tab8 track_Changes.bits8 (fun HT_ HW_ => ?_)
       generalize w13.drew = w14 at HO_5 BK360 HB hHeld ⊢
       refine pure_ (i:=0) (N:=some 23) (v:=?_) (a':=?_) (bm 1 8) rfl rfl (any_of HT_.out (by kernel_rfl)) (fun _ _ _ h => h) (Or.inl ⟨by rfl,?_⟩) ?_ ?_
       rotate_left
       ·intro w'
        go_simp
        with_reducible rfl
       rotate_left
       ·simp only [Act.put,sA,sB,sC,i64_w,i32_w]
        rfl
       refine pure_ (i:=3) (N:=some 26) (v:=?_) (a':=?_) (bm 9 8) rfl rfl (any_of HT_.out (by kernel_rfl)) (fun _ _ _ h => h) (Or.inl ⟨by rfl,?_⟩) ?_ ?_
       rotate_left
       ·intro w'
        go_simp
        with_reducible rfl
       rotate_left
       ·simp only [Act.put,sA,sB,sC,i64_w,i32_w]
        rfl
       refine take_ (i:=1) (N:=some 24) (v:=?_) (a':=?_) (bm 11 8) rfl rfl (take_ofW HT_.out HW_.out (by kernel_rfl)) (fun _ _ _ h => h) (Or.inl ⟨by rfl,?_⟩) hHeld ?_ ?_
       rotate_left
       ·rintro w' ⟨s0,s1,s2⟩
        go_simp
        with_reducible rfl
       rotate_left
       ·simp only [Act.put,sA,sB,sC,i64_w,i32_w]
        rfl
       refine take_ (i:=4) (N:=some 27) (v:=?_) (a':=?_) (bm 27 8) rfl rfl (take_ofW HT_.out HW_.out (by kernel_rfl)) (fun _ _ _ h => h) (Or.inl ⟨by rfl,?_⟩) hHeld ?_ ?_
       rotate_left
       ·rintro w' ⟨s0,s1,s2⟩
        go_simp
        with_reducible rfl
       rotate_left
       ·simp only [Act.put,sA,sB,sC,i64_w,i32_w]
        rfl
       refine one_ (i:=2) (N:=some 25) (bm 31 8) rfl rfl (one_of HT_.out (by kernel_rfl)) (by decide) (fun K hK => ?_)
       refine goes_ Try.func84 (by kernel_rfl) rfl #[.slice A359_2 ((rd_T26 l0 x18_1).f2).length c359_2,.string (⟨#[97,100,100]⟩ : ByteArray)] (by rfl) rfl rfl (by (try simp only [List.map_toArray,List.map_cons,List.map_nil]);rfl) ?_
       with_reducible refine (attr_Get.calls k1 _ _ ((rd_T26 l0 x18_1).f2) (⟨#[97,100,100]⟩ : ByteArray) t361 _ ?side1 ?side2 A8.out).mono ?_
       (case side1 => repeat (exact (Kd.C_below HR359_2.out HB.out)))
       (case side2 => exact HC359_2.out)
       rintro e w15 ⟨rfl,hb⟩
       refine ⟨_,rfl,?_⟩
       have n0_:=Aside0.mk (Kd.R_below HO_5.out hb)
       have n1_:=Aside0.mk (blk_below BK360.out hb)
       have n2_:=Aside0.mk (below_step HB.out hb)
       clear HO_5
       clear BK360
       clear HB
       have HO_5:=n0_
       have BK360:=n1_
       have HB:=n2_
       clear n0_ n1_ n2_
       (try clear hb)
       (try clear hb2)
       (try clear hk)
       (try clear hi)
       refine hK.out _ _ ⟨(blk_cell BK360.out 0).trans rfl,(blk_cell BK360.out 1).trans rfl,(blk_cell BK360.out 2).trans rfl⟩ (fun hHeld => ?_)
       clear hK K
       refine norm_ (a':=?_) ?_ ?_
       rotate_left
       ·show Act.put _ (some 25) _ = _
        simp only [Act.put,sA,sB,sC,i64_w,i32_w]
        rfl
       refine one_ (i:=5) (N:=some 28) (bm 63 8) rfl rfl (one_of HT_.out (by kernel_rfl)) (by decide) (fun K hK => ?_)
       refine goes_ Try.func84 (by kernel_rfl) rfl #[.slice A359_2 ((rd_T26 l0 x18_1).f2).length c359_2,.string (⟨#[99,117,116]⟩ : ByteArray)] (by rfl) rfl rfl (by (try simp only [List.map_toArray,List.map_cons,List.map_nil]);rfl) ?_
       with_reducible refine (attr_Get.calls k1 _ _ ((rd_T26 l0 x18_1).f2) (⟨#[99,117,116]⟩ : ByteArray) t362 _ ?side1 ?side2 A9.out).mono ?_
       (case side1 => repeat (exact (Kd.C_below HR359_2.out HB.out)))
       (case side2 => exact HC359_2.out)
       rintro e w16 ⟨rfl,hb⟩
       refine ⟨_,rfl,?_⟩
       have n0_:=Aside0.mk (Kd.R_below HO_5.out hb)
       have n1_:=Aside0.mk (blk_below BK360.out hb)
       have n2_:=Aside0.mk (below_step HB.out hb)
       clear HO_5
       clear BK360
       clear HB
       have HO_5:=n0_
       have BK360:=n1_
       have HB:=n2_
       clear n0_ n1_ n2_
       (try clear hb)
       (try clear hb2)
       (try clear hk)
       (try clear hi)
       refine hK.out _ _ ⟨(blk_cell BK360.out 0).trans rfl,(blk_cell BK360.out 1).trans rfl,(blk_cell BK360.out 2).trans rfl⟩ (fun hHeld => ?_)
       clear hK K
       refine norm_ (a':=?_) ?_ ?_
       rotate_left
       ·show Act.put _ (some 28) _ = _
        simp only [Act.put,sA,sB,sC,i64_w,i32_w]
        rfl
       refine pure_ (i:=6) (N:=some 8) (v:=?_) (a':=?_) (bm 127 8) rfl rfl (any_of HT_.out (by kernel_rfl)) (fun _ _ _ h => h) (Or.inl ⟨by rfl,?_⟩) ?_ ?_
       rotate_left
       ·intro w'
        go_simp
        with_reducible rfl
       rotate_left
       ·simp only [Act.put,sA,sB,sC,i64_w,i32_w]
        rfl
       refine pure_ (i:=7) (N:=some 9) (v:=?_) (a':=?_) (bm 255 8) rfl rfl (any_of HT_.out (by kernel_rfl)) (fun _ _ _ h => h) (Or.inl ⟨by rfl,?_⟩) ?_ ?_
       rotate_left
       ·intro w'
        go_simp
        with_reducible rfl
       rotate_left
       ·simp only [Act.put,sA,sB,sC,i64_w,i32_w]
        rfl
       refine done_ (done_of HT_.out (by kernel_rfl)) ?_
       go_upto_region 9 with (fail)
       go_cut [34] (fun v34 wc => ∃ (kq : Nat) (x34_9 : Bool),v34 = .bool x34_9 ∧ Aside0 (track_Changes.j1 kq l0 x5_1 x18_1 t361 t362 l0 (l0.length : Int) x18_1 x34_9 = some (r1,r2)) ∧ Aside0 (kq ≤ k1) ∧ Aside0 (Kd.R k44 44 wc w.heap.size (fun _ => True) u5 x5_1) ∧ Aside0 (wc.heap[gb360]? = some (.cells #[.int .i64 ((rd_T26 l0 x18_1).f0),.int .i64 ((rd_T26 l0 x18_1).f1),(.slice A359_2 ((rd_T26 l0 x18_1).f2).length c359_2)] 26 (0,0))) ∧ Aside0 (Below w.heap.size w wc))
       case first =>
        have H:=HC10.out
        clear HC10
        by_cases c17 : t361.toList = ([] : List UInt8)
        ·rw [if_pos c17] at H
         have c17b0 : (t361.toList == ([] : List UInt8)) = true:=beq_iff_eq.mpr c17
         have c17b1 : (t361.toList != ([] : List UInt8)) = false:=bne_eq_false_iff_eq.mpr c17
         clear c17
         (skip)
         have H':=Aside0.mk H
         clear H
         go_wp2
         go_meet
         case rel => exact ⟨_,((t362.toList == ([] : List UInt8))),(by (simp;done)),H',⟨by have:=HK1.out;omega⟩,⟨by exact HO_5.out⟩,⟨by exact BK360.out⟩,⟨HB.out⟩⟩
        ·rw [if_neg c17] at H
         have c17b0 : (t361.toList == ([] : List UInt8)) = false:=beq_eq_false_iff_ne.mpr c17
         have c17b1 : (t361.toList != ([] : List UInt8)) = true:=bne_iff_ne.mpr c17
         (skip)
         have H':=Aside0.mk H
         clear H
         go_wp2
         go_meet
         case rel => exact ⟨_,(false),(by rfl),H',⟨by have:=HK1.out;omega⟩,⟨by exact HO_5.out⟩,⟨by exact BK360.out⟩,⟨HB.out⟩⟩
       case rest =>
        clear HC10
        try clear c5b0
        try clear c6b0
        try clear c7b0
        try clear hcz12_0
        try clear hcz12_1
        try clear hcz12_2
        try clear hfz12_0
        try clear hfz12_1
        try clear hfz12_2
        try clear hx359_0
        try clear hx359_1
        try clear hx359_2
        try clear p359
        try clear q359
        obtain ⟨kq,x34_9,rfl,HA,HJ9,HO_5,BK360,HB⟩:=hcut
        cases kq with
        | zero => exact absurd HA.out (by simp [track_Changes.j1])
        | succ kj9 =>
         have H:=HA.out
         clear HA
         simp only [track_Changes.j1] at H
         by_cases c18 : x34_9 = true
         ·subst c18
          have H1 : (track_Changes.l0 kj9 l0 x5_1 l0 (l0.length : Int) (wrap64 (x18_1 + 1))) = some (r1,r2):=by rw [if_pos rfl] at H;exact H
          clear H
          have H:=H1
          clear H1
          have H':=Aside0.mk H
          clear H
          go_wp2
          go_roundg kj9
          case measure => have:=HK1.out;have:=HJ9.out;omega
          case rel => exact ⟨(x5_1),(wrap64 (x18_1 + 1)),(by rfl),H',⟨by have:=HK1.out;have:=HJ9.out;omega⟩,⟨by exact HO_5.out⟩,⟨HB.out⟩⟩
         ·replace c18:=Bool.eq_false_iff.mpr c18
          subst c18
          have H1 : (if (wrap64 ((x5_1.length : Int) - 1)) ≥ 0 then (if 0 ≤ (wrap64 ((x5_1.length : Int) - 1)) then (if (wrap64 ((x5_1.length : Int) - 1)) < (x5_1.length : Int) then (if ((rd_T44 x5_1 (wrap64 ((x5_1.length : Int) - 1))).f1) = x18_1 then (if 0 ≤ (wrap64 (x18_1 - 1)) then (if (wrap64 (x18_1 - 1)) < (l0.length : Int) then ((attr_Get.f kj9 ((rd_T26 l0 (wrap64 (x18_1 - 1))).f2) (⟨#[97,100,100]⟩ : ByteArray)).bind fun t365 => (if t365.toList = t361.toList then ((attr_Get.f kj9 ((rd_T26 l0 (wrap64 (x18_1 - 1))).f2) (⟨#[99,117,116]⟩ : ByteArray)).bind fun t367 => (if t367.toList = t362.toList then (track_Changes.l0 kj9 l0 (x5_1.set ((wrap64 ((x5_1.length : Int) - 1)) : Int).toNat (⟨(rd_T44 x5_1 (wrap64 ((x5_1.length : Int) - 1))).f0,wrap64 (((rd_T44 x5_1 (wrap64 ((x5_1.length : Int) - 1))).f1) + 1)⟩ : S44)) l0 (l0.length : Int) (wrap64 (x18_1 + 1))) else (if x5_1.length < 8796093022208 then (track_Changes.l0 kj9 l0 (x5_1 ++ [(⟨x18_1,wrap64 (x18_1 + 1)⟩ : S44)]) l0 (l0.length : Int) (wrap64 (x18_1 + 1))) else (none)))) else (if x5_1.length < 8796093022208 then (track_Changes.l0 kj9 l0 (x5_1 ++ [(⟨x18_1,wrap64 (x18_1 + 1)⟩ : S44)]) l0 (l0.length : Int) (wrap64 (x18_1 + 1))) else (none)))) else (none)) else (none)) else (if x5_1.length < 8796093022208 then (track_Changes.l0 kj9 l0 (x5_1 ++ [(⟨x18_1,wrap64 (x18_1 + 1)⟩ : S44)]) l0 (l0.length : Int) (wrap64 (x18_1 + 1))) else (none))) else (none)) else (none)) else (if x5_1.length < 8796093022208 then (track_Changes.l0 kj9 l0 (x5_1 ++ [(⟨x18_1,wrap64 (x18_1 + 1)⟩ : S44)]) l0 (l0.length : Int) (wrap64 (x18_1 + 1))) else (none))) = some (r1,r2):=by rw [if_neg (show ¬ (false = true) by decide)] at H;exact H
          clear H
          have H:=H1
          clear H1
          by_cases c19 : (wrap64 ((x5_1.length : Int) - 1)) ≥ 0
          ·rw [if_pos c19] at H
           have c19b0 : decide (0 ≤ (wrap64 ((x5_1.length : Int) - 1))) = true:=decide_eq_true c19
           clear c19
           obtain ⟨ji20,hji20⟩ : ∃ j_ : Int,(wrap64 ((x5_1.length : Int) - 1)) = j_:=⟨_,rfl⟩
           replace H : (if 0 ≤ (ji20) then (if (ji20) < (x5_1.length : Int) then (if ((rd_T44 x5_1 (ji20)).f1) = x18_1 then (if 0 ≤ (wrap64 (x18_1 - 1)) then (if (wrap64 (x18_1 - 1)) < (l0.length : Int) then ((attr_Get.f kj9 ((rd_T26 l0 (wrap64 (x18_1 - 1))).f2) (⟨#[97,100,100]⟩ : ByteArray)).bind fun t365 => (if t365.toList = t361.toList then ((attr_Get.f kj9 ((rd_T26 l0 (wrap64 (x18_1 - 1))).f2) (⟨#[99,117,116]⟩ : ByteArray)).bind fun t367 => (if t367.toList = t362.toList then (track_Changes.l0 kj9 l0 (x5_1.set ((ji20) : Int).toNat (⟨(rd_T44 x5_1 (ji20)).f0,wrap64 (((rd_T44 x5_1 (ji20)).f1) + 1)⟩ : S44)) l0 (l0.length : Int) (wrap64 (x18_1 + 1))) else (if x5_1.length < 8796093022208 then (track_Changes.l0 kj9 l0 (x5_1 ++ [(⟨x18_1,wrap64 (x18_1 + 1)⟩ : S44)]) l0 (l0.length : Int) (wrap64 (x18_1 + 1))) else (none)))) else (if x5_1.length < 8796093022208 then (track_Changes.l0 kj9 l0 (x5_1 ++ [(⟨x18_1,wrap64 (x18_1 + 1)⟩ : S44)]) l0 (l0.length : Int) (wrap64 (x18_1 + 1))) else (none)))) else (none)) else (none)) else (if x5_1.length < 8796093022208 then (track_Changes.l0 kj9 l0 (x5_1 ++ [(⟨x18_1,wrap64 (x18_1 + 1)⟩ : S44)]) l0 (l0.length : Int) (wrap64 (x18_1 + 1))) else (none))) else (none)) else (none)) = some (r1,r2):=by (rw [hji20] at H;exact H)
           (try rw [hji20] at c19b0)
           have hji20w : (IntKind.i64.wrap ((x5_1.length : Int) - 1)) = ji20:=(i64_w _).trans hji20
           by_cases c21 : 0 ≤ (ji20)
           ·rw [if_pos c21] at H
            have c21b0 : decide (0 ≤ (ji20)) = true:=decide_eq_true c21
            clear c21
            by_cases c22 : (ji20) < (x5_1.length : Int)
            ·rw [if_pos c22] at H
             have c22b0 : decide ((ji20) < (x5_1.length : Int)) = true:=decide_eq_true c22
             clear c22
             by_cases c23 : ((rd_T44 x5_1 (ji20)).f1) = x18_1
             ·rw [if_pos c23] at H
              have c23b0 : (((rd_T44 x5_1 (ji20)).f1) == x18_1) = true:=beq_iff_eq.mpr c23
              have c23b1 : (((rd_T44 x5_1 (ji20)).f1) != x18_1) = false:=bne_eq_false_iff_eq.mpr c23
              clear c23
              obtain ⟨ji24,hji24⟩ : ∃ j_ : Int,(wrap64 (x18_1 - 1)) = j_:=⟨_,rfl⟩
              replace H : (if 0 ≤ (ji24) then (if (ji24) < (l0.length : Int) then ((attr_Get.f kj9 ((rd_T26 l0 (ji24)).f2) (⟨#[97,100,100]⟩ : ByteArray)).bind fun t365 => (if t365.toList = t361.toList then ((attr_Get.f kj9 ((rd_T26 l0 (ji24)).f2) (⟨#[99,117,116]⟩ : ByteArray)).bind fun t367 => (if t367.toList = t362.toList then (track_Changes.l0 kj9 l0 (x5_1.set ((ji20) : Int).toNat (⟨(rd_T44 x5_1 (ji20)).f0,wrap64 (((rd_T44 x5_1 (ji20)).f1) + 1)⟩ : S44)) l0 (l0.length : Int) (wrap64 (x18_1 + 1))) else (if x5_1.length < 8796093022208 then (track_Changes.l0 kj9 l0 (x5_1 ++ [(⟨x18_1,wrap64 (x18_1 + 1)⟩ : S44)]) l0 (l0.length : Int) (wrap64 (x18_1 + 1))) else (none)))) else (if x5_1.length < 8796093022208 then (track_Changes.l0 kj9 l0 (x5_1 ++ [(⟨x18_1,wrap64 (x18_1 + 1)⟩ : S44)]) l0 (l0.length : Int) (wrap64 (x18_1 + 1))) else (none)))) else (none)) else (none)) = some (r1,r2):=by (rw [hji24] at H;exact H)
              have hji24w : (IntKind.i64.wrap (x18_1 - 1)) = ji24:=(i64_w _).trans hji24
              by_cases c25 : 0 ≤ (ji24)
              ·rw [if_pos c25] at H
               have c25b0 : decide (0 ≤ (ji24)) = true:=decide_eq_true c25
               clear c25
               by_cases c26 : (ji24) < (l0.length : Int)
               ·rw [if_pos c26] at H
                have c26b0 : decide ((ji24) < (l0.length : Int)) = true:=decide_eq_true c26
                clear c26
                replace H:=Option.bind_eq_some_iff.mp H
                obtain ⟨t365,A270,H⟩:=H
                replace H : (if t365.toList = t361.toList then ((attr_Get.f kj9 ((rd_T26 l0 (ji24)).f2) (⟨#[99,117,116]⟩ : ByteArray)).bind fun t367 => (if t367.toList = t362.toList then (track_Changes.l0 kj9 l0 (x5_1.set ((ji20) : Int).toNat (⟨(rd_T44 x5_1 (ji20)).f0,wrap64 (((rd_T44 x5_1 (ji20)).f1) + 1)⟩ : S44)) l0 (l0.length : Int) (wrap64 (x18_1 + 1))) else (if x5_1.length < 8796093022208 then (track_Changes.l0 kj9 l0 (x5_1 ++ [(⟨x18_1,wrap64 (x18_1 + 1)⟩ : S44)]) l0 (l0.length : Int) (wrap64 (x18_1 + 1))) else (none)))) else (if x5_1.length < 8796093022208 then (track_Changes.l0 kj9 l0 (x5_1 ++ [(⟨x18_1,wrap64 (x18_1 + 1)⟩ : S44)]) l0 (l0.length : Int) (wrap64 (x18_1 + 1))) else (none))) = some (r1,r2):=H
                have A27:=Aside0.mk A270
                clear A270
                by_cases c28 : t365.toList = t361.toList
                ·rw [if_pos c28] at H
                 have c28b0 : (t365.toList == t361.toList) = true:=beq_iff_eq.mpr c28
                 have c28b1 : (t365.toList != t361.toList) = false:=bne_eq_false_iff_eq.mpr c28
                 clear c28
                 replace H:=Option.bind_eq_some_iff.mp H
                 obtain ⟨t367,A290,H⟩:=H
                 replace H : (if t367.toList = t362.toList then (track_Changes.l0 kj9 l0 (x5_1.set ((ji20) : Int).toNat (⟨(rd_T44 x5_1 (ji20)).f0,wrap64 (((rd_T44 x5_1 (ji20)).f1) + 1)⟩ : S44)) l0 (l0.length : Int) (wrap64 (x18_1 + 1))) else (if x5_1.length < 8796093022208 then (track_Changes.l0 kj9 l0 (x5_1 ++ [(⟨x18_1,wrap64 (x18_1 + 1)⟩ : S44)]) l0 (l0.length : Int) (wrap64 (x18_1 + 1))) else (none))) = some (r1,r2):=H
                 have A29:=Aside0.mk A290
                 clear A290
                 by_cases c30 : t367.toList = t362.toList
                 ·rw [if_pos c30] at H
                  have c30b0 : (t367.toList == t362.toList) = true:=beq_iff_eq.mpr c30
                  have c30b1 : (t367.toList != t362.toList) = false:=bne_eq_false_iff_eq.mpr c30
                  clear c30
                  obtain ⟨y369,hy369⟩ : ∃ y_ : List (S44),y_ = (x5_1.set ((ji20) : Int).toNat (⟨(rd_T44 x5_1 (ji20)).f0,wrap64 (((rd_T44 x5_1 (ji20)).f1) + 1)⟩ : S44)):=⟨_,rfl⟩
                  replace H : (track_Changes.l0 kj9 l0 y369 l0 (l0.length : Int) (wrap64 (x18_1 + 1))) = some (r1,r2):=by (rw [hy369];with_reducible exact H)
                  have Ny369:=Aside0.mk hy369
                  clear hy369
                  have H':=Aside0.mk H
                  clear H
                  obtain ⟨Ao32,co32,eo32⟩:=Kd.R_slice HO_5.out
                  subst eo32
                  have p363 : 0 ≤ ((ji20) : Int):=of_decide_eq_true (by assumption)
                  have q363 : (ji20) < (x5_1.length : Int):=of_decide_eq_true (by assumption)
                  obtain ⟨ad363,e363,hx363_0,hx363_1⟩:=at_T44 (Kd.R_reads' HO_5.out).2.2 (ji20) p363 q363
                  cases e363
                  replace p363:=eq_true p363
                  replace q363:=eq_true q363
                  have p364 : 0 ≤ ((ji24) : Int):=of_decide_eq_true (by assumption)
                  have q364 : (ji24) < (l0.length : Int):=of_decide_eq_true (by assumption)
                  obtain ⟨ad364,A364_2,c364_2,e364,hx364_0,hx364_1,hx364_2,hl364_2,hi364_2⟩:=at_T26 HR0.out (ji24) p364 q364
                  obtain rfl : ad359 = ad364:=(by injection e364)
                  replace hx364_0:=(HB.out.cell (World.block_lt_of_cell? w _ hx364_0)).trans hx364_0
                  replace hx364_1:=(HB.out.cell (World.block_lt_of_cell? w _ hx364_1)).trans hx364_1
                  replace hx364_2:=(HB.out.cell (World.block_lt_of_cell? w _ hx364_2)).trans hx364_2
                  have HR364_2:=Aside0.mk hi364_2
                  have HC364_2:=Aside0.mk hl364_2
                  clear hi364_2 hl364_2
                  replace p364:=eq_true p364
                  replace q364:=eq_true q364
                  go_wp2_with (first | (go_at_call 84;(with_reducible refine (attr_Get.calls kj9 _ _ ((rd_T26 l0 (ji24)).f2) (⟨#[97,100,100]⟩ : ByteArray) t365 _ ?side1 ?side2 A27.out).mono ?_);(case side1 => repeat (exact (Kd.C_below HR364_2.out HB.out)));(case side2 => exact HC364_2.out);rintro e w33 ⟨rfl,hb⟩;have n0_:=Aside0.mk (Kd.R_below HO_5.out hb);have n1_:=Aside0.mk (blk_below BK360.out hb);have n2_:=Aside0.mk (below_step HB.out hb);clear HO_5;clear BK360;clear HB;have HO_5:=n0_;have BK360:=n1_;have HB:=n2_;clear n0_ n1_ n2_;(try clear hb);(try clear hb2);(try clear hk);(try clear hi);have p366 : 0 ≤ ((ji24) : Int):=of_decide_eq_true (by assumption);have q366 : (ji24) < (l0.length : Int):=of_decide_eq_true (by assumption);obtain ⟨ad366,A366_2,c366_2,e366,hx366_0,hx366_1,hx366_2,hl366_2,hi366_2⟩:=at_T26 HR0.out (ji24) p366 q366;obtain rfl : ad359 = ad366:=(by injection e366);replace hx366_0:=(HB.out.cell (World.block_lt_of_cell? w _ hx366_0)).trans hx366_0;replace hx366_1:=(HB.out.cell (World.block_lt_of_cell? w _ hx366_1)).trans hx366_1;replace hx366_2:=(HB.out.cell (World.block_lt_of_cell? w _ hx366_2)).trans hx366_2;have HR366_2:=Aside0.mk hi366_2;have HC366_2:=Aside0.mk hl366_2;clear hi366_2 hl366_2;replace p366:=eq_true p366;replace q366:=eq_true q366) | (go_at_call 84;(with_reducible refine (attr_Get.calls kj9 _ _ ((rd_T26 l0 (ji24)).f2) (⟨#[99,117,116]⟩ : ByteArray) t367 _ ?side1 ?side2 A29.out).mono ?_);(case side1 => repeat (exact (Kd.C_below HR366_2.out HB.out)));(case side2 => exact HC366_2.out);rintro e w34 ⟨rfl,hb⟩;have n0_:=Aside0.mk (Kd.R_below HO_5.out hb);have n1_:=Aside0.mk (blk_below BK360.out hb);have n2_:=Aside0.mk (below_step HB.out hb);clear HO_5;clear BK360;clear HB;have HO_5:=n0_;have BK360:=n1_;have HB:=n2_;clear n0_ n1_ n2_;(try clear hb);(try clear hb2);(try clear hk);(try clear hi);have p368 : 0 ≤ ((ji20) : Int):=of_decide_eq_true (by assumption);have q368 : (ji20) < (x5_1.length : Int):=of_decide_eq_true (by assumption);obtain ⟨ad368,e368,hx368_0,hx368_1⟩:=at_T44 (Kd.R_reads' HO_5.out).2.2 (ji20) p368 q368;obtain rfl : ad363 = ad368:=(by injection e368);replace p368:=eq_true p368;replace q368:=eq_true q368;have p31 : 0 ≤ ((ji20) : Int):=of_decide_eq_true (by assumption);have q31 : ((ji20) : Int) < ((x5_1.length : Int) : Int):=of_decide_eq_true (by assumption);obtain ⟨go31,co31,eo31,gb31,gl31,cl31,HG31⟩:=Kd.R_form HO_5.out (by omega);(first | cases eo31 | (injection eo31 with ea_ en_ ec_;(first | subst ea_ | (injection ea_ with ea_;subst ea_));subst ec_;clear en_));have GB31:=Aside0.mk gb31;have GG31:=Aside0.mk HG31;clear gb31 gl31 HG31;(simp only [add_plain] at hx363_0);(simp only [add_plain] at hx363_1);(simp only [add_plain] at hx368_0);(simp only [add_plain] at hx368_1);obtain ⟨ce31,hcl31,hM31,hcc31,hfr31⟩:=Kd.R_elem HO_5.out z44 ((ji20) : Int) p31 q31;obtain rfl:=k44_openM hM31;have hx31_0 : w34.cell? ⟨go31,((ji20) : Int).toNat * 2,none⟩ = some (.int .i64 ((rd_T44 x5_1 (ji20)).f0)):=hcc31 0 _ rfl;have hx31_1 : w34.cell? ⟨go31,((ji20) : Int).toNat * 2 + 1,none⟩ = some (.int .i64 ((rd_T44 x5_1 (ji20)).f1)):=hcc31 1 _ rfl;have hf31_0 : w34.frozen? ⟨go31,((ji20) : Int).toNat * 2,none⟩ = false:=hfr31 0;have hf31_1 : w34.frozen? ⟨go31,((ji20) : Int).toNat * 2 + 1,none⟩ = false:=hfr31 1;clear hcl31 hcc31 hfr31 hM31;replace p31:=eq_true p31;replace q31:=eq_true q31;have HX35:=Aside0.mk (show Kd.R k44 44 w34 w.heap.size (fun _ => True) (.slice (some ⟨go31,0,none⟩) x5_1.length co32) x5_1 from HO_5.out);obtain ⟨ce35,hcl35,hM35,hcc35,hfr35⟩:=Kd.R_elem HX35.out z44 ((ji20) : Int) (of_decide_eq_true (by assumption)) (by have h_ : ((ji20) : Int) < ((x5_1.length : Int) : Int):=of_decide_eq_true (by assumption);exact h_);obtain rfl:=k44_openM hM35;have HP35:=Kd.R_seg HX35.out ((ji20) : Int) (of_decide_eq_true (by assumption)) (by have h_ : ((ji20) : Int) < ((x5_1.length : Int) : Int):=of_decide_eq_true (by assumption);exact h_) (seg:=[.int .i64 (wrap64 (((rd_T44 x5_1 (ji20)).f1) + 1))]) (j:=1) hcl35 hcc35 (show 2 ≤ 2 from by decide) (x':=(⟨(rd_T44 x5_1 (ji20)).f0,wrap64 (((rd_T44 x5_1 (ji20)).f1) + 1)⟩ : S44)) (k44_mkM _ _ _ (⟨(rd_T44 x5_1 (ji20)).f0,wrap64 (((rd_T44 x5_1 (ji20)).f1) + 1)⟩ : S44) ) (fun _ hk => hk);have hx35_1:=hcc35 1 _ rfl;(try simp only [show (k44).sz = 2 from rfl,Nat.mul_one,Nat.add_zero] at hx35_1);have hf35_1:=hfr35 1;(try simp only [show (k44).sz = 2 from rfl,Nat.mul_one,Nat.add_zero] at hf35_1);clear hcl35 hcc35 hfr35 hM35) | ((with_reducible refine gate_store (t:=3) (p:=78) rfl ?_);refine store_event (t:=3) (p:=78) (v:=?vo_w36) (w1:=(w34.setCell ⟨go31,((ji20) : Int).toNat * 2 + 1,none⟩ (.int .i64 (wrap64 (((rd_T44 x5_1 (ji20)).f1) + 1))))) ?hg ?ho ?hn ?hr ?_;(case ho => rfl);(case hg => rfl);(case hn => rfl);(case hr => (go_simp;done));intro w36 hw;have hg : w34.grownBy w36 (some go31):=(by rw [hw];exact HP35.2);have hp_ : Kd.R k44 44 w36 w.heap.size (fun _ => True) (.slice (some ⟨go31,0,none⟩) x5_1.length co32) y369:=(by rw [hw,Ny369.out];exact HP35.1);clear HP35;have n0_:=Aside0.mk hp_;have n1_:=Aside0.mk (blk_grown BK360.out hg (Kd.R_ne HO_5.out BK360.out (by decide)));have n2_:=Aside0.mk ((by rw [hw];exact below_set (HB.out) GB31.out : Below w.heap.size w w36));clear HO_5;clear BK360;clear HB;have HO_5:=n0_;have BK360:=n1_;have HB:=n2_;clear n0_ n1_ n2_;clear hg hw hp_))
                  go_roundg kj9
                  case measure => have:=HK1.out;have:=HJ9.out;omega
                  case rel => exact ⟨(y369),(wrap64 (x18_1 + 1)),(by rfl),H',⟨by have:=HK1.out;have:=HJ9.out;omega⟩,⟨by exact HO_5.out⟩,⟨HB.out⟩⟩
                 ·rw [if_neg c30] at H
                  have c30b0 : (t367.toList == t362.toList) = false:=beq_eq_false_iff_ne.mpr c30
                  have c30b1 : (t367.toList != t362.toList) = true:=bne_iff_ne.mpr c30
                  by_cases c37 : x5_1.length < 8796093022208
                  ·rw [if_pos c37] at H
                   have LMc37:=Aside0.mk c37
                   clear c37
                   obtain ⟨y370,hy370⟩ : ∃ y_ : List (S44),y_ = (x5_1 ++ [(⟨x18_1,wrap64 (x18_1 + 1)⟩ : S44)]):=⟨_,rfl⟩
                   replace H : (track_Changes.l0 kj9 l0 y370 l0 (l0.length : Int) (wrap64 (x18_1 + 1))) = some (r1,r2):=by (rw [hy370];with_reducible exact H)
                   have Ny370:=Aside0.mk hy370
                   clear hy370
                   have H':=Aside0.mk H
                   clear H
                   obtain ⟨Ao38,co38,eo38⟩:=Kd.R_slice HO_5.out
                   subst eo38
                   have p363 : 0 ≤ ((ji20) : Int):=of_decide_eq_true (by assumption)
                   have q363 : (ji20) < (x5_1.length : Int):=of_decide_eq_true (by assumption)
                   obtain ⟨ad363,e363,hx363_0,hx363_1⟩:=at_T44 (Kd.R_reads' HO_5.out).2.2 (ji20) p363 q363
                   cases e363
                   replace p363:=eq_true p363
                   replace q363:=eq_true q363
                   have p364 : 0 ≤ ((ji24) : Int):=of_decide_eq_true (by assumption)
                   have q364 : (ji24) < (l0.length : Int):=of_decide_eq_true (by assumption)
                   obtain ⟨ad364,A364_2,c364_2,e364,hx364_0,hx364_1,hx364_2,hl364_2,hi364_2⟩:=at_T26 HR0.out (ji24) p364 q364
                   obtain rfl : ad359 = ad364:=(by injection e364)
                   replace hx364_0:=(HB.out.cell (World.block_lt_of_cell? w _ hx364_0)).trans hx364_0
                   replace hx364_1:=(HB.out.cell (World.block_lt_of_cell? w _ hx364_1)).trans hx364_1
                   replace hx364_2:=(HB.out.cell (World.block_lt_of_cell? w _ hx364_2)).trans hx364_2
                   have HR364_2:=Aside0.mk hi364_2
                   have HC364_2:=Aside0.mk hl364_2
                   clear hi364_2 hl364_2
                   replace p364:=eq_true p364
                   replace q364:=eq_true q364
                   go_wp2_with (first | (go_at_call 84;(with_reducible refine (attr_Get.calls kj9 _ _ ((rd_T26 l0 (ji24)).f2) (⟨#[97,100,100]⟩ : ByteArray) t365 _ ?side1 ?side2 A27.out).mono ?_);(case side1 => repeat (exact (Kd.C_below HR364_2.out HB.out)));(case side2 => exact HC364_2.out);rintro e w39 ⟨rfl,hb⟩;have n0_:=Aside0.mk (Kd.R_below HO_5.out hb);have n1_:=Aside0.mk (blk_below BK360.out hb);have n2_:=Aside0.mk (below_step HB.out hb);clear HO_5;clear BK360;clear HB;have HO_5:=n0_;have BK360:=n1_;have HB:=n2_;clear n0_ n1_ n2_;(try clear hb);(try clear hb2);(try clear hk);(try clear hi);have p366 : 0 ≤ ((ji24) : Int):=of_decide_eq_true (by assumption);have q366 : (ji24) < (l0.length : Int):=of_decide_eq_true (by assumption);obtain ⟨ad366,A366_2,c366_2,e366,hx366_0,hx366_1,hx366_2,hl366_2,hi366_2⟩:=at_T26 HR0.out (ji24) p366 q366;obtain rfl : ad359 = ad366:=(by injection e366);replace hx366_0:=(HB.out.cell (World.block_lt_of_cell? w _ hx366_0)).trans hx366_0;replace hx366_1:=(HB.out.cell (World.block_lt_of_cell? w _ hx366_1)).trans hx366_1;replace hx366_2:=(HB.out.cell (World.block_lt_of_cell? w _ hx366_2)).trans hx366_2;have HR366_2:=Aside0.mk hi366_2;have HC366_2:=Aside0.mk hl366_2;clear hi366_2 hl366_2;replace p366:=eq_true p366;replace q366:=eq_true q366) | (go_at_call 84;(with_reducible refine (attr_Get.calls kj9 _ _ ((rd_T26 l0 (ji24)).f2) (⟨#[99,117,116]⟩ : ByteArray) t367 _ ?side1 ?side2 A29.out).mono ?_);(case side1 => repeat (exact (Kd.C_below HR366_2.out HB.out)));(case side2 => exact HC366_2.out);rintro e w40 ⟨rfl,hb⟩;have n0_:=Aside0.mk (Kd.R_below HO_5.out hb);have n1_:=Aside0.mk (blk_below BK360.out hb);have n2_:=Aside0.mk (below_step HB.out hb);clear HO_5;clear BK360;clear HB;have HO_5:=n0_;have BK360:=n1_;have HB:=n2_;clear n0_ n1_ n2_;(try clear hb);(try clear hb2);(try clear hk);(try clear hi)) | ((with_reducible refine gate_builtin (b:=.append) (xs:=#[.tmp 79,.tmp 84]) rfl ?_);at_builtin;refine Kd.R_append k44 (w0:=w) w.heap.size rfl (.tmp 79) (.tmp 84) 40 44 (.agg #[(.int .i64 0),(.int .i64 0)]) 16 rfl Try.underlying40 info44 rfl (by decide) (by omega) (.slice (some ad363) x5_1.length co38) x5_1 (⟨x18_1,wrap64 (x18_1 + 1)⟩ : S44) [.int .i64 x18_1,.int .i64 (wrap64 (x18_1 + 1))] (fun _ => True) (fun _ => False) rfl rfl ?aP (fun _ hk => hk.elim) ?aF ?aO ?aB ?aS ?aL ?_;(case aP => exact k44_mkM _ _ _ (⟨x18_1,wrap64 (x18_1 + 1)⟩ : S44));(case aB => exact HB.out);(case aF => exact (fun _ _ => trivial));(case aO => exact HO_5.out);(case aS => exact (below_size HB.out));(case aL => have:=LMc37.out;omega);intro v371 w41 ho hb hg hat;rw [← Ny370.out] at ho;have n0_:=Aside0.mk (blk_grown BK360.out hg (Kd.R_ne HO_5.out BK360.out (by decide)));have n1_:=Aside0.mk hb;have n2_:=Aside0.mk ho;clear BK360;clear HB;clear HO_5;have BK360:=n0_;have HB:=n1_;have HO372:=n2_;clear n0_ n1_ n2_;clear ho hb hg hat))
                   go_roundg kj9
                   case measure => have:=HK1.out;have:=HJ9.out;omega
                   case rel => exact ⟨(y370),(wrap64 (x18_1 + 1)),(by rfl),H',⟨by have:=HK1.out;have:=HJ9.out;omega⟩,⟨by exact HO372.out⟩,⟨HB.out⟩⟩
                  ·rw [if_neg c37] at H
                   exact absurd H (by simp)
                ·rw [if_neg c28] at H
                 have c28b0 : (t365.toList == t361.toList) = false:=beq_eq_false_iff_ne.mpr c28
                 have c28b1 : (t365.toList != t361.toList) = true:=bne_iff_ne.mpr c28
                 by_cases c42 : x5_1.length < 8796093022208
                 ·rw [if_pos c42] at H
                  have LMc42:=Aside0.mk c42
                  clear c42
                  obtain ⟨y373,hy373⟩ : ∃ y_ : List (S44),y_ = (x5_1 ++ [(⟨x18_1,wrap64 (x18_1 + 1)⟩ : S44)]):=⟨_,rfl⟩
                  replace H : (track_Changes.l0 kj9 l0 y373 l0 (l0.length : Int) (wrap64 (x18_1 + 1))) = some (r1,r2):=by (rw [hy373];with_reducible exact H)
                  have Ny373:=Aside0.mk hy373
                  clear hy373
                  have H':=Aside0.mk H
                  clear H
                  obtain ⟨Ao43,co43,eo43⟩:=Kd.R_slice HO_5.out
                  subst eo43
                  have p363 : 0 ≤ ((ji20) : Int):=of_decide_eq_true (by assumption)
                  have q363 : (ji20) < (x5_1.length : Int):=of_decide_eq_true (by assumption)
                  obtain ⟨ad363,e363,hx363_0,hx363_1⟩:=at_T44 (Kd.R_reads' HO_5.out).2.2 (ji20) p363 q363
                  cases e363
                  replace p363:=eq_true p363
                  replace q363:=eq_true q363
                  have p364 : 0 ≤ ((ji24) : Int):=of_decide_eq_true (by assumption)
                  have q364 : (ji24) < (l0.length : Int):=of_decide_eq_true (by assumption)
                  obtain ⟨ad364,A364_2,c364_2,e364,hx364_0,hx364_1,hx364_2,hl364_2,hi364_2⟩:=at_T26 HR0.out (ji24) p364 q364
                  obtain rfl : ad359 = ad364:=(by injection e364)
                  replace hx364_0:=(HB.out.cell (World.block_lt_of_cell? w _ hx364_0)).trans hx364_0
                  replace hx364_1:=(HB.out.cell (World.block_lt_of_cell? w _ hx364_1)).trans hx364_1
                  replace hx364_2:=(HB.out.cell (World.block_lt_of_cell? w _ hx364_2)).trans hx364_2
                  have HR364_2:=Aside0.mk hi364_2
                  have HC364_2:=Aside0.mk hl364_2
                  clear hi364_2 hl364_2
                  replace p364:=eq_true p364
                  replace q364:=eq_true q364
                  go_wp2_with (first | (go_at_call 84;(with_reducible refine (attr_Get.calls kj9 _ _ ((rd_T26 l0 (ji24)).f2) (⟨#[97,100,100]⟩ : ByteArray) t365 _ ?side1 ?side2 A27.out).mono ?_);(case side1 => repeat (exact (Kd.C_below HR364_2.out HB.out)));(case side2 => exact HC364_2.out);rintro e w44 ⟨rfl,hb⟩;have n0_:=Aside0.mk (Kd.R_below HO_5.out hb);have n1_:=Aside0.mk (blk_below BK360.out hb);have n2_:=Aside0.mk (below_step HB.out hb);clear HO_5;clear BK360;clear HB;have HO_5:=n0_;have BK360:=n1_;have HB:=n2_;clear n0_ n1_ n2_;(try clear hb);(try clear hb2);(try clear hk);(try clear hi)) | ((with_reducible refine gate_builtin (b:=.append) (xs:=#[.tmp 79,.tmp 84]) rfl ?_);at_builtin;refine Kd.R_append k44 (w0:=w) w.heap.size rfl (.tmp 79) (.tmp 84) 40 44 (.agg #[(.int .i64 0),(.int .i64 0)]) 16 rfl Try.underlying40 info44 rfl (by decide) (by omega) (.slice (some ad363) x5_1.length co43) x5_1 (⟨x18_1,wrap64 (x18_1 + 1)⟩ : S44) [.int .i64 x18_1,.int .i64 (wrap64 (x18_1 + 1))] (fun _ => True) (fun _ => False) rfl rfl ?aP (fun _ hk => hk.elim) ?aF ?aO ?aB ?aS ?aL ?_;(case aP => exact k44_mkM _ _ _ (⟨x18_1,wrap64 (x18_1 + 1)⟩ : S44));(case aB => exact HB.out);(case aF => exact (fun _ _ => trivial));(case aO => exact HO_5.out);(case aS => exact (below_size HB.out));(case aL => have:=LMc42.out;omega);intro v374 w45 ho hb hg hat;rw [← Ny373.out] at ho;have n0_:=Aside0.mk (blk_grown BK360.out hg (Kd.R_ne HO_5.out BK360.out (by decide)));have n1_:=Aside0.mk hb;have n2_:=Aside0.mk ho;clear BK360;clear HB;clear HO_5;have BK360:=n0_;have HB:=n1_;have HO375:=n2_;clear n0_ n1_ n2_;clear ho hb hg hat))
                  go_roundg kj9
                  case measure => have:=HK1.out;have:=HJ9.out;omega
                  case rel => exact ⟨(y373),(wrap64 (x18_1 + 1)),(by rfl),H',⟨by have:=HK1.out;have:=HJ9.out;omega⟩,⟨by exact HO375.out⟩,⟨HB.out⟩⟩
                 ·rw [if_neg c42] at H
                  exact absurd H (by simp)
               ·rw [if_neg c26] at H
                exact absurd H (by simp)
              ·rw [if_neg c25] at H
               exact absurd H (by simp)
             ·rw [if_neg c23] at H
              have c23b0 : (((rd_T44 x5_1 (ji20)).f1) == x18_1) = false:=beq_eq_false_iff_ne.mpr c23
              have c23b1 : (((rd_T44 x5_1 (ji20)).f1) != x18_1) = true:=bne_iff_ne.mpr c23
              by_cases c46 : x5_1.length < 8796093022208
              ·rw [if_pos c46] at H
               have LMc46:=Aside0.mk c46
               clear c46
               obtain ⟨y376,hy376⟩ : ∃ y_ : List (S44),y_ = (x5_1 ++ [(⟨x18_1,wrap64 (x18_1 + 1)⟩ : S44)]):=⟨_,rfl⟩
               replace H : (track_Changes.l0 kj9 l0 y376 l0 (l0.length : Int) (wrap64 (x18_1 + 1))) = some (r1,r2):=by (rw [hy376];with_reducible exact H)
               have Ny376:=Aside0.mk hy376
               clear hy376
               have H':=Aside0.mk H
               clear H
               obtain ⟨Ao47,co47,eo47⟩:=Kd.R_slice HO_5.out
               subst eo47
               have p363 : 0 ≤ ((ji20) : Int):=of_decide_eq_true (by assumption)
               have q363 : (ji20) < (x5_1.length : Int):=of_decide_eq_true (by assumption)
               obtain ⟨ad363,e363,hx363_0,hx363_1⟩:=at_T44 (Kd.R_reads' HO_5.out).2.2 (ji20) p363 q363
               cases e363
               replace p363:=eq_true p363
               replace q363:=eq_true q363
               go_wp2_with (((with_reducible refine gate_builtin (b:=.append) (xs:=#[.tmp 79,.tmp 84]) rfl ?_);at_builtin;refine Kd.R_append k44 (w0:=w) w.heap.size rfl (.tmp 79) (.tmp 84) 40 44 (.agg #[(.int .i64 0),(.int .i64 0)]) 16 rfl Try.underlying40 info44 rfl (by decide) (by omega) (.slice (some ad363) x5_1.length co47) x5_1 (⟨x18_1,wrap64 (x18_1 + 1)⟩ : S44) [.int .i64 x18_1,.int .i64 (wrap64 (x18_1 + 1))] (fun _ => True) (fun _ => False) rfl rfl ?aP (fun _ hk => hk.elim) ?aF ?aO ?aB ?aS ?aL ?_;(case aP => exact k44_mkM _ _ _ (⟨x18_1,wrap64 (x18_1 + 1)⟩ : S44));(case aB => exact HB.out);(case aF => exact (fun _ _ => trivial));(case aO => exact HO_5.out);(case aS => exact (below_size HB.out));(case aL => have:=LMc46.out;omega);intro v377 w48 ho hb hg hat;rw [← Ny376.out] at ho;have n0_:=Aside0.mk (blk_grown BK360.out hg (Kd.R_ne HO_5.out BK360.out (by decide)));have n1_:=Aside0.mk hb;have n2_:=Aside0.mk ho;clear BK360;clear HB;clear HO_5;have BK360:=n0_;have HB:=n1_;have HO378:=n2_;clear n0_ n1_ n2_;clear ho hb hg hat))
               go_roundg kj9
               case measure => have:=HK1.out;have:=HJ9.out;omega
               case rel => exact ⟨(y376),(wrap64 (x18_1 + 1)),(by rfl),H',⟨by have:=HK1.out;have:=HJ9.out;omega⟩,⟨by exact HO378.out⟩,⟨HB.out⟩⟩
              ·rw [if_neg c46] at H
               exact absurd H (by simp)
            ·rw [if_neg c22] at H
             exact absurd H (by simp)
           ·rw [if_neg c21] at H
            exact absurd H (by simp)
          ·rw [if_neg c19] at H
           have c19b0 : decide (0 ≤ (wrap64 ((x5_1.length : Int) - 1))) = false:=decide_eq_false c19
           clear c19
           by_cases c49 : x5_1.length < 8796093022208
           ·rw [if_pos c49] at H
            have LMc49:=Aside0.mk c49
            clear c49
            obtain ⟨y379,hy379⟩ : ∃ y_ : List (S44),y_ = (x5_1 ++ [(⟨x18_1,wrap64 (x18_1 + 1)⟩ : S44)]):=⟨_,rfl⟩
            replace H : (track_Changes.l0 kj9 l0 y379 l0 (l0.length : Int) (wrap64 (x18_1 + 1))) = some (r1,r2):=by (rw [hy379];with_reducible exact H)
            have Ny379:=Aside0.mk hy379
            clear hy379
            have H':=Aside0.mk H
            clear H
            obtain ⟨Ao50,co50,eo50⟩:=Kd.R_slice HO_5.out
            subst eo50
            go_wp2_with (((with_reducible refine gate_builtin (b:=.append) (xs:=#[.tmp 79,.tmp 84]) rfl ?_);at_builtin;refine Kd.R_append k44 (w0:=w) w.heap.size rfl (.tmp 79) (.tmp 84) 40 44 (.agg #[(.int .i64 0),(.int .i64 0)]) 16 rfl Try.underlying40 info44 rfl (by decide) (by omega) (.slice Ao50 x5_1.length co50) x5_1 (⟨x18_1,wrap64 (x18_1 + 1)⟩ : S44) [.int .i64 x18_1,.int .i64 (wrap64 (x18_1 + 1))] (fun _ => True) (fun _ => False) rfl rfl ?aP (fun _ hk => hk.elim) ?aF ?aO ?aB ?aS ?aL ?_;(case aP => exact k44_mkM _ _ _ (⟨x18_1,wrap64 (x18_1 + 1)⟩ : S44));(case aB => exact HB.out);(case aF => exact (fun _ _ => trivial));(case aO => exact HO_5.out);(case aS => exact (below_size HB.out));(case aL => have:=LMc49.out;omega);intro v380 w51 ho hb hg hat;rw [← Ny379.out] at ho;have n0_:=Aside0.mk (blk_grown BK360.out hg (Kd.R_ne HO_5.out BK360.out (by decide)));have n1_:=Aside0.mk hb;have n2_:=Aside0.mk ho;clear BK360;clear HB;clear HO_5;have BK360:=n0_;have HB:=n1_;have HO381:=n2_;clear n0_ n1_ n2_;clear ho hb hg hat))
            go_roundg kj9
            case measure => have:=HK1.out;have:=HJ9.out;omega
            case rel => exact ⟨(y379),(wrap64 (x18_1 + 1)),(by rfl),H',⟨by have:=HK1.out;have:=HJ9.out;omega⟩,⟨by exact HO381.out⟩,⟨HB.out⟩⟩
           ·rw [if_neg c49] at H
            exact absurd H (by simp)
      ·rw [if_neg c7] at H
       exact absurd H (by simp)
     ·rw [if_neg c6] at H
      exact absurd H (by simp)
    ·rw [if_neg c5] at H
     have c5b0 : decide (x18_1 < (l0.length : Int)) = false:=decide_eq_false c5
     clear c5
     simp only [Option.some.injEq,Prod.mk.injEq] at H
     obtain ⟨rfl,rfl⟩:=H
     go_wp2
     go_ret2
     exact ⟨_,by rfl,by exact HO_5.out,HB.out⟩
 ·rw [if_neg c3] at H
  have c3b0 : (t358 == 0) = false:=beq_eq_false_iff_ne.mpr c3
  have c3b1 : (t358 != 0) = true:=bne_iff_ne.mpr c3
  simp only [Option.some.injEq,Prod.mk.injEq] at H
  obtain ⟨rfl,rfl⟩:=H
  go_enter Try.func51,Try.ntmps51
  go_wp2_with (((with_reducible refine gate_callee (f:=61) rfl ?_);refine goesL_ (some 12) rfl rfl Try.func61 (by kernel_rfl) rfl #[.slice A0 l0.length c0] rfl (by (try simp only [List.map_toArray,List.map_cons,List.map_nil]);rfl) ?_;(with_reducible refine (flow_CheckPart.calls k _ _ l0 t358 _ ?side1 ?side2 A2.out).mono ?_);(case side1 => repeat (exact HR0.out));(case side2 => exact HC0.out);rintro e w52 ⟨rfl,hb⟩;refine ⟨_,rfl,?_⟩;replace HB:=Aside0.mk (below_step (by with_reducible exact HB.out) hb);(try clear hb);(try clear hb2);(try clear hk);(try clear hi)))
  go_ret2
  exact ⟨_,by rfl,by exact Kd.R_nil _ _ _ _ _,HB.out⟩
end Go.Proofs.Ytlcodfjlbhjkbaa.PDelta
end
section
namespace Go.Proofs.Ytlcodfjlbhjkbaa.PDelta
open Go.RowKit Go.Proofs.YtlcodfjlbhjkbaaW.PrintWords Go.Proofs.YtlcodfjlbhjkbaaW.PrintLast Go.Proofs.YtlcodfjlbhjkbaaW.PrintMore
def shows.T8 : Bool × List (List Nat × List Nat):=(true,[([],[]),([],[]),([0,1],[0,1]),([2],[2]),([3],[3]),([],[]),([],[]),([],[]),([6,7],[6,7]),([8],[8]),([5,9],[5,9]),([10],[10]),([11],[11]),([4,12],[4,12]),([13],[13]),([14],[14]),([14],[14]),([15,16,14],[14,15,16]),([17,14],[14,17]),([18,14],[14,18]),([14],[14]),([14],[14]),([14],[14]),([21,22,14],[14,21,22]),([23,14],[14,23]),([20,24,14],[14,20,24]),([25,14],[14,25]),([26,14],[14,26]),([19,27,14],[14,19,27]),([14,28],[14,28]),([29,14],[29]),([30],[30]),([30],[30]),([31,32,30],[30,31,32]),([33,30],[30,33]),([34,30],[30,34]),([35,30,30],[30,35]),([36,36,30],[30,36]),([37],[37]),([38,37],[37,38]),([37,39,30],[30,37,39]),([30,40],[30,40]),([41,37],[41]),([42],[42]),([42],[42]),([43,44,42],[42,43,44]),([45,42],[42,45]),([46,42],[42,46]),([47,42,42],[42,47]),([48,48,42],[42,48]),([49],[49]),([50,49],[49,50]),([49,51,42],[42,49,51]),([42,52],[42,52])])
def shows.B8 : List Nat:=[0,0,3,7,15,0,0,0,192,448,992,2016,4064,8191,16383,32767,32767,131071,262143,524287,32767,32767,32767,6324223,14712831,32538623,66093055,133201919,268435455,536870911,1073741823,2147483647,2147483647,8589934591,17179869183,34359738367,68719476735,137438953471,274877906943,549755813887,1099511627775,2199023255551,4398046511103,8796093022207,8796093022207,35184372088831,70368744177663,140737488355327,281474976710655,562949953421311,1125899906842623,2251799813685247,4503599627370495,9007199254740991]
theorem shows.tab8 : rtab .any (opsOf Try.f18 8) = shows.T8:=by kernel_rfl
theorem shows.bits8 : waitsOk shows.T8.2 shows.B8 = true:=by kernel_rfl
structure ShowE (k : Nat) (m : Int) (y x : S26) : Prop where
 c : y.f0 = x.f0
 r : y.f1 = x.f1
 h : ∃ hc ha : Bool,chanceryref1_Has.f k y.f2 (⟨#[99,117,116]⟩ : ByteArray) = some hc ∧ chanceryref1_Has.f k y.f2 (⟨#[97,100,100]⟩ : ByteArray) = some ha ∧ (hc = true → m ≠ 0) ∧ (ha = true → m ≠ 1)
structure ShowsG (k : Nat) (f : List S26) (m : Int) (g : List S26) (l : List Int) (c : List S44) : Prop where
 shown : track_Shown.f k f m = some (l,0)
 len : l.length = g.length
 big : g.length ≤ 1073741824
 el : ∀ i : Nat,i < g.length → ∃ p : Nat,rd l (i : Int) = (p : Int) ∧ p < f.length ∧ ShowE k m (rd_T26 g (i : Int)) (rd_T26 f (p : Int))
 ch : track_Changes.f k f = some (c,0)
 same : 0 < c.length ∨ c.length = 0 ∧ chanceryref1_SameFlow.f k g f = some true
set_option maxRecDepth 100000 in
set_option maxHeartbeats 16000000 in
theorem shows_calls (k : Nat) (A0 : Option Addr) (c0 : Nat) (f : List S26) (A1 : Option Addr) (c1 : Nat) (d : List S95) (m : Int) (g : List S26) (l : List Int) (c : List S44) (w : World) (hr0 : Kd.C k26 w A0 f.length f) (hc0 : f.length ≤ c0) (hr1 : Kd.C k95 w A1 d.length d) (hc1 : d.length ≤ c1) (ha : chanceryref1_After.f f d = some g) (h : ShowsG k f m g l c) :
 Calls Try.prog 18 #[.slice A0 f.length c0,.slice A1 d.length c1,.int .i64 m] w fun e w' => e = .returned (.bool true) ∧ Below w.heap.size w w':=by
 have hu26:=Try.underlying26
 have HR0:=Aside0.mk hr0
 have HC0:=Aside0.mk hc0
 have HR1:=Aside0.mk hr1
 have HC1:=Aside0.mk hc1
 have HAF:=Aside0.mk ha
 have HS:=Aside0.mk h
 have hll:=h.len
 have hlb : (l.length != g.length) = false:=by rw [h.len];simp
 have hlb2 : ((l.length : Int) != (g.length : Int)) = false:=by rw [h.len];simp
 clear hr0 hc0 hr1 hc1 ha h hll
 go_enter Try.func18,Try.ntmps18
 go_wp2_with (first | (go_at_call 29;(with_reducible refine (chanceryref1_After.calls A0 c0 f A1 c1 d g _ HR0.out HC0.out HR1.out HC1.out HAF.out).mono ?_);rintro e1 w1 ⟨v1,rfl,hN,hb⟩;obtain ⟨A5,n5,e5⟩:=Kd.N_slice hN;subst e5;have HG:=Aside0.mk (And.intro (Kd.N_reads' hN).2.2 (Kd.N_reads' hN).2.1);have HB1:=Aside0.mk hb;clear hN hb) | (go_at_call 46;(with_reducible refine (track_Shown.calls k A0 c0 f m l 0 w1 (Kd.C_below HR0.out HB1.out) HC0.out HS.out.shown).mono ?_);rintro e2 w2 ⟨v2,rfl,hR,hb⟩;obtain ⟨A6,n6,e6⟩:=Kd.R_slice hR;subst e6;have HL:=Aside0.mk (And.intro (Kd.R_reads' hR).2.2 (Kd.R_reads' hR).2.1);have HB2:=Aside0.mk (below_step HB1.out hb);have HGB:=Aside0.mk (Kd.C_below HG.out.1 hb);clear hR hb))
 clear hlb hlb2
 go_loopg [33] g.length (fun n v33 wr => ∃ (i : Nat),v33 = .int .i64 (i : Int) ∧ Aside0 (n + i = g.length) ∧ Aside0 (Below w.heap.size w wr) ∧ Aside0 (Kd.C k26 wr A5 g.length g) ∧ Aside0 (Kd.C (Kd.int .i64) wr A6 l.length l))
 case atStart => exact ⟨0,rfl,⟨rfl⟩,HB2,HGB,⟨HL.out.1⟩⟩
 case round =>
  obtain ⟨i,rfl,HI,HBW,HGC,HLC⟩:=hrel
  have HR0' : Aside0 (Kd.C k26 wr A0 f.length f):=⟨Kd.C_below HR0.out HBW.out⟩
  have HGN:=Aside0.mk HG.out.2
  clear HG HB1 HB2 HGB
  by_cases d2 : i < g.length
  rotate_left
  ·have g1 : decide ((i : Int) < (g.length : Int)) = false:=decide_eq_false (by omega)
   have g1' : decide (i < g.length) = false:=decide_eq_false d2
   clear d2
   rcases HS.out.same with hs | ⟨hs,hsf⟩
   ·have s1 : decide ((c.length : Int) > 0) = true:=decide_eq_true (by omega)
    have s2 : decide (0 < c.length) = true:=decide_eq_true hs
    have s3 : decide (0 < (c.length : Int)) = true:=decide_eq_true (by omega)
    clear hs
    go_wp2_with (go_at_call 51;(with_reducible refine (track_Changes.calls k A0 c0 f c 0 _ HR0'.out HC0.out HS.out.ch).mono ?_);rintro e3 w3 ⟨v3,rfl,hR,hb⟩;obtain ⟨A7,n7,e7⟩:=Kd.R_slice hR;subst e7;have HB3:=Aside0.mk (below_step HBW.out hb);clear hR hb)
    go_ret
    exact ⟨rfl,HB3.out⟩
   ·have s1 : decide ((c.length : Int) > 0) = false:=decide_eq_false (by omega)
    have s2 : decide (0 < c.length) = false:=decide_eq_false (by omega)
    have s3 : decide (0 < (c.length : Int)) = false:=decide_eq_false (by omega)
    have HSF:=Aside0.mk hsf
    clear hs hsf
    go_wp2_with (first | (go_at_call 51;(with_reducible refine (track_Changes.calls k A0 c0 f c 0 _ HR0'.out HC0.out HS.out.ch).mono ?_);rintro e3 w3 ⟨v3,rfl,hR,hb⟩;obtain ⟨A7,n7,e7⟩:=Kd.R_slice hR;subst e7;have HB3:=Aside0.mk (below_step HBW.out hb);have HG3:=Aside0.mk (Kd.C_below HGC.out hb);have HF3:=Aside0.mk (Kd.C_below HR0'.out hb);clear hR hb) | (go_at_call 28;(with_reducible refine (chanceryref1_SameFlow.calls k A5 n5 g A0 c0 f true _ HG3.out HGN.out HF3.out HC0.out HSF.out).mono ?_);rintro e4 w4 ⟨rfl,hb⟩;have HB4:=Aside0.mk (below_step HB3.out hb);clear hb))
    go_ret
    exact ⟨rfl,HB4.out⟩
  obtain ⟨gl,rfl⟩ : ∃ gl,gk = gl + 1:=⟨gk - 1,by have:=HI.out;omega⟩
  have g1 : decide ((i : Int) < (g.length : Int)) = true:=decide_eq_true (by omega)
  have g1' : decide (i < g.length) = true:=decide_eq_true d2
  have wk : wrap64 ((i : Int) + 1) = (i : Int) + 1:=by have:=HS.out.big;unfold wrap64;omega
  have HWK:=Aside0.mk wk
  clear wk
  obtain ⟨p,hp,hpf,hE⟩:=HS.out.el i d2
  have q1 : (i : Int) < (g.length : Int):=by omega
  have q2 : (i : Int) < (l.length : Int):=by rw [HS.out.len];omega
  have q3 : (p : Int) < (f.length : Int):=by omega
  have q1' : i < g.length:=d2
  have q2' : i < l.length:=by rw [HS.out.len];exact d2
  obtain ⟨ad1,AY,cY,e1,ha0,ha1,ha2,hmY,hCY⟩:=at_T26 HGC.out (i : Int) (by omega) q1
  cases e1
  obtain ⟨ad2,e2,hb0⟩:=Kd.at_int HLC.out (i : Int) (by omega) q2
  cases e2
  obtain ⟨ad0,AX,cX,e0,hx0,hx1,hx2,hmX,hCX⟩:=at_T26 HR0'.out (p : Int) (by omega) q3
  cases e0
  rw [hp] at hb0
  simp only [Int.toNat_natCast] at ha0 ha1 ha2 hb0 hx0 hx1
  obtain ⟨y,hy⟩ : ∃ y,y = rd_T26 g (i : Int):=⟨_,rfl⟩
  obtain ⟨x,hx⟩ : ∃ x,x = rd_T26 f (p : Int):=⟨_,rfl⟩
  rw [← hy] at ha0 ha1 ha2 hmY hCY hE
  rw [← hx] at hx0 hx1 hE
  obtain ⟨hc,ha,hhc,hha,hcm,ham⟩:=hE.h
  have t1 : (y.f0 != x.f0) = false:=by rw [hE.c];simp
  have t2 : (y.f1 != x.f1) = false:=by rw [hE.r];simp
  have HQ0:=Aside0.mk (show wr.drew.cell? _ = _ from ha0)
  have HQ1:=Aside0.mk (show wr.drew.cell? _ = _ from ha1)
  have HQ2:=Aside0.mk (show wr.drew.cell? _ = _ from ha2)
  have HQ3:=Aside0.mk (show wr.drew.cell? _ = _ from hb0)
  have HQ4:=Aside0.mk (show wr.drew.cell? _ = _ from hx0)
  have HQ5:=Aside0.mk (show wr.drew.cell? _ = _ from hx1)
  have HCY:=Aside0.mk (Kd.C_drew hCY)
  have HMY:=Aside0.mk hmY
  have HB8:=Aside0.mk (Below.refl wr.drew.heap.size wr.drew)
  have HNX : Aside0 (∀ W,Below wr.drew.heap.size wr.drew W → Below w.heap.size w W ∧ Kd.C k26 W (some ad1) g.length g ∧ Kd.C (Kd.int .i64) W (some ad2) l.length l):=⟨fun W hW => ⟨below_step (below_drew1 HBW.out) hW,Kd.C_below (Kd.C_drew HGC.out) hW,Kd.C_below (Kd.C_drew HLC.out) hW⟩⟩
  clear hy hx hE ha0 ha1 ha2 hb0 hx0 hx1 hx2 hmY hCY hmX hCX hp HR0' d2 hu26
  go_upto_region 8 with (fail)
  cases hc with
  | true =>
   cases ha with
   | true =>
    have HHC:=Aside0.mk hhc
    have HHA:=Aside0.mk hha
    have t3 : (m == 0) = false:=beq_eq_false_iff_ne.mpr (hcm rfl)
    have t4 : (m == 1) = false:=beq_eq_false_iff_ne.mpr (ham rfl)
    clear hhc hha hcm ham
    refine start_ (n:=54) (S:=fun w' => w'.cell? (ad1.add (i * 3)) = some (.int .i64 y.f0) ∧ w'.cell? ⟨(ad1.add (i * 3)).block,(ad1.add (i * 3)).off + 1,none⟩ = some (.int .i64 y.f1) ∧ w'.cell? ⟨(ad1.add (i * 3)).block,(ad1.add (i * 3)).off + 2,none⟩ = some (.slice AY y.f2.length cY) ∧ w'.cell? (ad2.add i) = some (.int .i64 (p : Int)) ∧ w'.cell? (ad0.add (p * 3)) = some (.int .i64 x.f0) ∧ w'.cell? ⟨(ad0.add (p * 3)).block,(ad0.add (p * 3)).off + 1,none⟩ = some (.int .i64 x.f1)) (ds:=[]) #[false,false,false,false,false,false,false,false,false,false,false,false,false,false,false,false,false,false,false,false,false,false,false,false,false,false,false,false,false,false,false,false,false,false,false,false,false,false,false,false,false,false,false,false,false,false,false,false,false,false,false,false,false,false] (by kernel_rfl) rfl rfl ⟨(pw_cell_below HB8.out HQ0.out),(pw_cell_below HB8.out HQ1.out),(pw_cell_below HB8.out HQ2.out),(pw_cell_below HB8.out HQ3.out),(pw_cell_below HB8.out HQ4.out),(pw_cell_below HB8.out HQ5.out)⟩ (fun hHeld => ?_)
    refine with_tabW shows.tab8 shows.bits8 (fun HT_ HW_ => ?_)
    refine pure_ (i:=0) (N:=some 36) (v:=?_) (a':=?_) (bm 1 54) rfl rfl (any_of HT_.out (by kernel_rfl)) (fun _ _ _ h => h) (Or.inl ⟨by rfl,?_⟩) ?_ ?_
    rotate_left
    ·intro w'
     go_simp
     with_reducible rfl
    rotate_left
    ·simp only [Act.put,sA,sB,sC,i64_w,i32_w]
     rfl
    refine pure_ (i:=1) (N:=some 37) (v:=?_) (a':=?_) (bm 3 54) rfl rfl (any_of HT_.out (by kernel_rfl)) (fun _ _ _ h => h) (Or.inl ⟨by rfl,?_⟩) ?_ ?_
    rotate_left
    ·intro w'
     go_simp
     with_reducible rfl
    rotate_left
    ·simp only [Act.put,sA,sB,sC,i64_w,i32_w]
     rfl
    refine pure_ (i:=2) (N:=some 38) (v:=?_) (a':=?_) (bm 7 54) rfl rfl (any_of HT_.out (by kernel_rfl)) (fun _ _ _ h => h) (Or.inl ⟨by rfl,?_⟩) ?_ ?_
    rotate_left
    ·intro w'
     go_simp
     with_reducible rfl
    rotate_left
    ·simp only [Act.put,sA,sB,sC,i64_w,i32_w]
     rfl
    refine pure_ (i:=3) (N:=some 39) (v:=?_) (a':=?_) (bm 15 54) rfl rfl (any_of HT_.out (by kernel_rfl)) (fun _ _ _ h => h) (Or.inl ⟨by rfl,?_⟩) ?_ ?_
    rotate_left
    ·intro w'
     go_simp
     with_reducible rfl
    rotate_left
    ·simp only [Act.put,sA,sB,sC,i64_w,i32_w]
     rfl
    refine pure_ (i:=5) (N:=some 41) (v:=?_) (a':=?_) (bm 47 54) rfl rfl (any_of HT_.out (by kernel_rfl)) (fun _ _ _ h => h) (Or.inl ⟨by rfl,?_⟩) ?_ ?_
    rotate_left
    ·intro w'
     go_simp
     with_reducible rfl
    rotate_left
    ·simp only [Act.put,sA,sB,sC,i64_w,i32_w]
     rfl
    refine pure_ (i:=6) (N:=some 42) (v:=?_) (a':=?_) (bm 111 54) rfl rfl (any_of HT_.out (by kernel_rfl)) (fun _ _ _ h => h) (Or.inl ⟨by rfl,?_⟩) ?_ ?_
    rotate_left
    ·intro w'
     go_simp
     with_reducible rfl
    rotate_left
    ·simp only [Act.put,sA,sB,sC,i64_w,i32_w]
     rfl
    refine pure_ (i:=7) (N:=some 43) (v:=?_) (a':=?_) (bm 239 54) rfl rfl (any_of HT_.out (by kernel_rfl)) (fun _ _ _ h => h) (Or.inl ⟨by rfl,?_⟩) ?_ ?_
    rotate_left
    ·intro w'
     go_simp
     with_reducible rfl
    rotate_left
    ·simp only [Act.put,sA,sB,sC,i64_w,i32_w]
     rfl
    refine pure_ (i:=8) (N:=some 44) (v:=?_) (a':=?_) (bm 495 54) rfl rfl (any_of HT_.out (by kernel_rfl)) (fun _ _ _ h => h) (Or.inl ⟨by rfl,?_⟩) ?_ ?_
    rotate_left
    ·intro w'
     go_simp
     with_reducible rfl
    rotate_left
    ·simp only [Act.put,sA,sB,sC,i64_w,i32_w]
     rfl
    refine take_ (i:=4) (N:=some 40) (v:=?_) (a':=?_) (bm 511 54) rfl rfl (take_ofW HT_.out HW_.out (by kernel_rfl)) (fun _ _ _ h => h) (Or.inl ⟨by rfl,?_⟩) hHeld ?_ ?_
    rotate_left
    ·rintro w' ⟨s0,s1,s2,s3,s4,s5⟩
     go_simp
     with_reducible rfl
    rotate_left
    ·simp only [Act.put,sA,sB,sC,i64_w,i32_w]
     rfl
    refine take_ (i:=9) (N:=some 45) (v:=?_) (a':=?_) (bm 1023 54) rfl rfl (take_ofW HT_.out HW_.out (by kernel_rfl)) (fun _ _ _ h => h) (Or.inl ⟨by rfl,?_⟩) hHeld ?_ ?_
    rotate_left
    ·rintro w' ⟨s0,s1,s2,s3,s4,s5⟩
     go_simp
     with_reducible rfl
    rotate_left
    ·simp only [Act.put,sA,sB,sC,i64_w,i32_w]
     rfl
    refine pure_ (i:=10) (N:=some 46) (v:=?_) (a':=?_) (bm 2047 54) rfl rfl (any_of HT_.out (by kernel_rfl)) (fun _ _ _ h => h) (Or.inl ⟨by rfl,?_⟩) ?_ ?_
    rotate_left
    ·intro w'
     go_simp
     with_reducible rfl
    rotate_left
    ·simp only [Act.put,sA,sB,sC,i64_w,i32_w]
     rfl
    refine pure_ (i:=11) (N:=some 47) (v:=?_) (a':=?_) (bm 4095 54) rfl rfl (any_of HT_.out (by kernel_rfl)) (fun _ _ _ h => h) (Or.inl ⟨by rfl,?_⟩) ?_ ?_
    rotate_left
    ·intro w'
     go_simp
     with_reducible rfl
    rotate_left
    ·simp only [Act.put,sA,sB,sC,i64_w,i32_w]
     rfl
    refine take_ (i:=12) (N:=some 48) (v:=?_) (a':=?_) (bm 8191 54) rfl rfl (take_ofW HT_.out HW_.out (by kernel_rfl)) (fun _ _ _ h => h) (Or.inl ⟨by rfl,?_⟩) hHeld ?_ ?_
    rotate_left
    ·rintro w' ⟨s0,s1,s2,s3,s4,s5⟩
     go_simp
     with_reducible rfl
    rotate_left
    ·simp only [Act.put,sA,sB,sC,i64_w,i32_w]
     rfl
    refine pure_ (i:=13) (N:=some 49) (v:=?_) (a':=?_) (bm 16383 54) rfl rfl (any_of HT_.out (by kernel_rfl)) (fun _ _ _ h => h) (Or.inl ⟨by rfl,?_⟩) ?_ ?_
    rotate_left
    ·intro w'
     go_simp
     with_reducible rfl
    rotate_left
    ·simp only [Act.put,sA,sB,sC,i64_w,i32_w]
     rfl
    refine pure_ (i:=14) (N:=some 50) (v:=?_) (a':=?_) (bm 32767 54) rfl rfl (any_of HT_.out (by kernel_rfl)) (fun _ _ _ h => h) (Or.inl ⟨by rfl,?_⟩) ?_ ?_
    rotate_left
    ·intro w'
     go_simp
     with_reducible rfl
    rotate_left
    ·simp only [Act.put,sA,sB,sC,i64_w,i32_w]
     rfl
    refine pure_ (i:=15) (N:=some 51) (v:=?_) (a':=?_) (bm 65535 54) rfl rfl (any_of HT_.out (by kernel_rfl)) (fun _ _ _ h => h) (Or.inl ⟨by rfl,?_⟩) ?_ ?_
    rotate_left
    ·intro w'
     go_simp
     with_reducible rfl
    rotate_left
    ·simp only [Act.put,sA,sB,sC,i64_w,i32_w]
     rfl
    refine pure_ (i:=16) (N:=some 52) (v:=?_) (a':=?_) (bm 131071 54) rfl rfl (any_of HT_.out (by kernel_rfl)) (fun _ _ _ h => h) (Or.inl ⟨by rfl,?_⟩) ?_ ?_
    rotate_left
    ·intro w'
     go_simp
     with_reducible rfl
    rotate_left
    ·simp only [Act.put,sA,sB,sC,i64_w,i32_w]
     rfl
    refine pure_ (i:=17) (N:=some 53) (v:=?_) (a':=?_) (bm 262143 54) rfl rfl (any_of HT_.out (by kernel_rfl)) (fun _ _ _ h => h) (Or.inl ⟨by rfl,?_⟩) ?_ ?_
    rotate_left
    ·intro w'
     go_simp
     with_reducible rfl
    rotate_left
    ·simp only [Act.put,sA,sB,sC,i64_w,i32_w]
     rfl
    refine pure_ (i:=18) (N:=some 54) (v:=?_) (a':=?_) (bm 524287 54) rfl rfl (any_of HT_.out (by kernel_rfl)) (fun _ _ _ h => h) (Or.inl ⟨by rfl,?_⟩) ?_ ?_
    rotate_left
    ·intro w'
     go_simp
     with_reducible rfl
    rotate_left
    ·simp only [Act.put,sA,sB,sC,i64_w,i32_w]
     rfl
    refine pure_ (i:=20) (N:=some 56) (v:=?_) (a':=?_) (bm 1572863 54) rfl rfl (any_of HT_.out (by kernel_rfl)) (fun _ _ _ h => h) (Or.inl ⟨by rfl,?_⟩) ?_ ?_
    rotate_left
    ·intro w'
     go_simp
     with_reducible rfl
    rotate_left
    ·simp only [Act.put,sA,sB,sC,i64_w,i32_w]
     rfl
    refine pure_ (i:=21) (N:=some 57) (v:=?_) (a':=?_) (bm 3670015 54) rfl rfl (any_of HT_.out (by kernel_rfl)) (fun _ _ _ h => h) (Or.inl ⟨by rfl,?_⟩) ?_ ?_
    rotate_left
    ·intro w'
     go_simp
     with_reducible rfl
    rotate_left
    ·simp only [Act.put,sA,sB,sC,i64_w,i32_w]
     rfl
    refine pure_ (i:=22) (N:=some 58) (v:=?_) (a':=?_) (bm 7864319 54) rfl rfl (any_of HT_.out (by kernel_rfl)) (fun _ _ _ h => h) (Or.inl ⟨by rfl,?_⟩) ?_ ?_
    rotate_left
    ·intro w'
     go_simp
     with_reducible rfl
    rotate_left
    ·simp only [Act.put,sA,sB,sC,i64_w,i32_w]
     rfl
    refine pure_ (i:=23) (N:=some 59) (v:=?_) (a':=?_) (bm 16252927 54) rfl rfl (any_of HT_.out (by kernel_rfl)) (fun _ _ _ h => h) (Or.inl ⟨by rfl,?_⟩) ?_ ?_
    rotate_left
    ·intro w'
     go_simp
     with_reducible rfl
    rotate_left
    ·simp only [Act.put,sA,sB,sC,i64_w,i32_w]
     rfl
    refine take_ (i:=19) (N:=some 55) (v:=?_) (a':=?_) (bm 16777215 54) rfl rfl (take_ofW HT_.out HW_.out (by kernel_rfl)) (fun _ _ _ h => h) (Or.inl ⟨by rfl,?_⟩) hHeld ?_ ?_
    rotate_left
    ·rintro w' ⟨s0,s1,s2,s3,s4,s5⟩
     go_simp
     with_reducible rfl
    rotate_left
    ·simp only [Act.put,sA,sB,sC,i64_w,i32_w]
     rfl
    refine take_ (i:=24) (N:=some 60) (v:=?_) (a':=?_) (bm 33554431 54) rfl rfl (take_ofW HT_.out HW_.out (by kernel_rfl)) (fun _ _ _ h => h) (Or.inl ⟨by rfl,?_⟩) hHeld ?_ ?_
    rotate_left
    ·rintro w' ⟨s0,s1,s2,s3,s4,s5⟩
     go_simp
     with_reducible rfl
    rotate_left
    ·simp only [Act.put,sA,sB,sC,i64_w,i32_w]
     rfl
    refine pure_ (i:=25) (N:=some 61) (v:=?_) (a':=?_) (bm 67108863 54) rfl rfl (any_of HT_.out (by kernel_rfl)) (fun _ _ _ h => h) (Or.inl ⟨by rfl,?_⟩) ?_ ?_
    rotate_left
    ·intro w'
     go_simp
     with_reducible rfl
    rotate_left
    ·simp only [Act.put,sA,sB,sC,i64_w,i32_w]
     rfl
    refine pure_ (i:=26) (N:=some 62) (v:=?_) (a':=?_) (bm 134217727 54) rfl rfl (any_of HT_.out (by kernel_rfl)) (fun _ _ _ h => h) (Or.inl ⟨by rfl,?_⟩) ?_ ?_
    rotate_left
    ·intro w'
     go_simp
     with_reducible rfl
    rotate_left
    ·simp only [Act.put,sA,sB,sC,i64_w,i32_w]
     rfl
    refine take_ (i:=27) (N:=some 63) (v:=?_) (a':=?_) (bm 268435455 54) rfl rfl (take_ofW HT_.out HW_.out (by kernel_rfl)) (fun _ _ _ h => h) (Or.inl ⟨by rfl,?_⟩) hHeld ?_ ?_
    rotate_left
    ·rintro w' ⟨s0,s1,s2,s3,s4,s5⟩
     go_simp
     with_reducible rfl
    rotate_left
    ·simp only [Act.put,sA,sB,sC,i64_w,i32_w]
     rfl
    refine pure_ (i:=28) (N:=some 64) (v:=?_) (a':=?_) (bm 536870911 54) rfl rfl (any_of HT_.out (by kernel_rfl)) (fun _ _ _ h => h) (Or.inl ⟨by rfl,?_⟩) ?_ ?_
    rotate_left
    ·intro w'
     go_simp
     with_reducible rfl
    rotate_left
    ·simp only [Act.put,sA,sB,sC,i64_w,i32_w]
     rfl
    refine pure_ (i:=29) (N:=some 65) (v:=?_) (a':=?_) (bm 1073741823 54) rfl rfl (any_of HT_.out (by kernel_rfl)) (fun _ _ _ h => h) (Or.inl ⟨by rfl,?_⟩) ?_ ?_
    rotate_left
    ·intro w'
     go_simp
     with_reducible rfl
    rotate_left
    ·simp only [Act.put,sA,sB,sC,i64_w,i32_w]
     rfl
    refine pure_ (i:=30) (N:=some 66) (v:=?_) (a':=?_) (bm 2147483647 54) rfl rfl (any_of HT_.out (by kernel_rfl)) (fun _ _ _ h => h) (Or.inl ⟨by rfl,?_⟩) ?_ ?_
    rotate_left
    ·intro w'
     go_simp
     with_reducible rfl
    rotate_left
    ·simp only [Act.put,sA,sB,sC,i64_w,i32_w]
     rfl
    refine pure_ (i:=31) (N:=some 67) (v:=?_) (a':=?_) (bm 4294967295 54) rfl rfl (any_of HT_.out (by kernel_rfl)) (fun _ _ _ h => h) (Or.inl ⟨by rfl,?_⟩) ?_ ?_
    rotate_left
    ·intro w'
     go_simp
     with_reducible rfl
    rotate_left
    ·simp only [Act.put,sA,sB,sC,i64_w,i32_w]
     rfl
    refine pure_ (i:=32) (N:=some 68) (v:=?_) (a':=?_) (bm 8589934591 54) rfl rfl (any_of HT_.out (by kernel_rfl)) (fun _ _ _ h => h) (Or.inl ⟨by rfl,?_⟩) ?_ ?_
    rotate_left
    ·intro w'
     go_simp
     with_reducible rfl
    rotate_left
    ·simp only [Act.put,sA,sB,sC,i64_w,i32_w]
     rfl
    refine pure_ (i:=33) (N:=some 69) (v:=?_) (a':=?_) (bm 17179869183 54) rfl rfl (any_of HT_.out (by kernel_rfl)) (fun _ _ _ h => h) (Or.inl ⟨by rfl,?_⟩) ?_ ?_
    rotate_left
    ·intro w'
     go_simp
     with_reducible rfl
    rotate_left
    ·simp only [Act.put,sA,sB,sC,i64_w,i32_w]
     rfl
    refine pure_ (i:=34) (N:=some 70) (v:=?_) (a':=?_) (bm 34359738367 54) rfl rfl (any_of HT_.out (by kernel_rfl)) (fun _ _ _ h => h) (Or.inl ⟨by rfl,?_⟩) ?_ ?_
    rotate_left
    ·intro w'
     go_simp
     with_reducible rfl
    rotate_left
    ·simp only [Act.put,sA,sB,sC,i64_w,i32_w]
     rfl
    refine take_ (i:=35) (N:=some 71) (v:=?_) (a':=?_) (bm 68719476735 54) rfl rfl (take_ofW HT_.out HW_.out (by kernel_rfl)) (fun _ _ _ h => h) (Or.inl ⟨by rfl,?_⟩) hHeld ?_ ?_
    rotate_left
    ·rintro w' ⟨s0,s1,s2,s3,s4,s5⟩
     go_simp
     with_reducible rfl
    rotate_left
    ·simp only [Act.put,sA,sB,sC,i64_w,i32_w]
     rfl
    refine one_ (i:=36) (N:=some 72) (bm 137438953471 54) rfl rfl (one_of HT_.out (by kernel_rfl)) (by decide) (fun K hK => ?_)
    refine goes_ Try.func14 (by kernel_rfl) rfl #[.slice AY y.f2.length cY,.string (⟨#[99,117,116]⟩ : ByteArray)] (by rfl) rfl rfl (by simp only [List.map_toArray,List.map_cons,List.map_nil];rfl) ?_
    with_reducible refine (chanceryref1_Has.calls k AY cY y.f2 (⟨#[99,117,116]⟩ : ByteArray) true _ (Kd.C_below HCY.out HB8.out) HMY.out HHC.out).mono ?_
    rintro e w36_ ⟨rfl,hd⟩
    refine ⟨_,rfl,?_⟩
    have HB8:=Aside0.mk (below_step HB8.out hd.below)
    clear hd
    refine hK.out _ _ ⟨(pw_cell_below HB8.out HQ0.out),(pw_cell_below HB8.out HQ1.out),(pw_cell_below HB8.out HQ2.out),(pw_cell_below HB8.out HQ3.out),(pw_cell_below HB8.out HQ4.out),(pw_cell_below HB8.out HQ5.out)⟩ (fun hHeld => ?_)
    clear hK K
    refine norm_ (a':=?_) ?_ ?_
    rotate_left
    ·show Act.put _ (some 72) _ = _
     simp only [Act.put,sA,sB,sC,i64_w,i32_w]
     rfl
    refine pure_ (i:=37) (N:=some 73) (v:=?_) (a':=?_) (bm 274877906943 54) rfl rfl (any_of HT_.out (by kernel_rfl)) (fun _ _ _ h => h) (Or.inl ⟨by rfl,?_⟩) ?_ ?_
    rotate_left
    ·intro w'
     go_simp
     with_reducible rfl
    rotate_left
    ·simp only [Act.put,sA,sB,sC,i64_w,i32_w]
     rfl
    refine pure_ (i:=38) (N:=some 74) (v:=?_) (a':=?_) (bm 549755813887 54) rfl rfl (any_of HT_.out (by kernel_rfl)) (fun _ _ _ h => h) (Or.inl ⟨by rfl,?_⟩) ?_ ?_
    rotate_left
    ·intro w'
     go_simp
     with_reducible rfl
    rotate_left
    ·simp only [Act.put,sA,sB,sC,i64_w,i32_w]
     rfl
    refine pure_ (i:=39) (N:=some 75) (v:=?_) (a':=?_) (bm 1099511627775 54) rfl rfl (any_of HT_.out (by kernel_rfl)) (fun _ _ _ h => h) (Or.inl ⟨by rfl,?_⟩) ?_ ?_
    rotate_left
    ·intro w'
     go_simp
     with_reducible rfl
    rotate_left
    ·simp only [Act.put,sA,sB,sC,i64_w,i32_w]
     rfl
    refine pure_ (i:=40) (N:=some 76) (v:=?_) (a':=?_) (bm 2199023255551 54) rfl rfl (any_of HT_.out (by kernel_rfl)) (fun _ _ _ h => h) (Or.inl ⟨by rfl,?_⟩) ?_ ?_
    rotate_left
    ·intro w'
     go_simp
     with_reducible rfl
    rotate_left
    ·simp only [Act.put,sA,sB,sC,i64_w,i32_w]
     rfl
    refine pure_ (i:=41) (N:=some 77) (v:=?_) (a':=?_) (bm 4398046511103 54) rfl rfl (any_of HT_.out (by kernel_rfl)) (fun _ _ _ h => h) (Or.inl ⟨by rfl,?_⟩) ?_ ?_
    rotate_left
    ·intro w'
     go_simp
     with_reducible rfl
    rotate_left
    ·simp only [Act.put,sA,sB,sC,i64_w,i32_w]
     rfl
    refine pure_ (i:=42) (N:=some 78) (v:=?_) (a':=?_) (bm 8796093022207 54) rfl rfl (any_of HT_.out (by kernel_rfl)) (fun _ _ _ h => h) (Or.inl ⟨by rfl,?_⟩) ?_ ?_
    rotate_left
    ·intro w'
     go_simp
     with_reducible rfl
    rotate_left
    ·simp only [Act.put,sA,sB,sC,i64_w,i32_w]
     rfl
    refine pure_ (i:=43) (N:=some 79) (v:=?_) (a':=?_) (bm 17592186044415 54) rfl rfl (any_of HT_.out (by kernel_rfl)) (fun _ _ _ h => h) (Or.inl ⟨by rfl,?_⟩) ?_ ?_
    rotate_left
    ·intro w'
     go_simp
     with_reducible rfl
    rotate_left
    ·simp only [Act.put,sA,sB,sC,i64_w,i32_w]
     rfl
    refine pure_ (i:=44) (N:=some 80) (v:=?_) (a':=?_) (bm 35184372088831 54) rfl rfl (any_of HT_.out (by kernel_rfl)) (fun _ _ _ h => h) (Or.inl ⟨by rfl,?_⟩) ?_ ?_
    rotate_left
    ·intro w'
     go_simp
     with_reducible rfl
    rotate_left
    ·simp only [Act.put,sA,sB,sC,i64_w,i32_w]
     rfl
    refine pure_ (i:=45) (N:=some 81) (v:=?_) (a':=?_) (bm 70368744177663 54) rfl rfl (any_of HT_.out (by kernel_rfl)) (fun _ _ _ h => h) (Or.inl ⟨by rfl,?_⟩) ?_ ?_
    rotate_left
    ·intro w'
     go_simp
     with_reducible rfl
    rotate_left
    ·simp only [Act.put,sA,sB,sC,i64_w,i32_w]
     rfl
    refine pure_ (i:=46) (N:=some 82) (v:=?_) (a':=?_) (bm 140737488355327 54) rfl rfl (any_of HT_.out (by kernel_rfl)) (fun _ _ _ h => h) (Or.inl ⟨by rfl,?_⟩) ?_ ?_
    rotate_left
    ·intro w'
     go_simp
     with_reducible rfl
    rotate_left
    ·simp only [Act.put,sA,sB,sC,i64_w,i32_w]
     rfl
    refine take_ (i:=47) (N:=some 83) (v:=?_) (a':=?_) (bm 281474976710655 54) rfl rfl (take_ofW HT_.out HW_.out (by kernel_rfl)) (fun _ _ _ h => h) (Or.inl ⟨by rfl,?_⟩) hHeld ?_ ?_
    rotate_left
    ·rintro w' ⟨s0,s1,s2,s3,s4,s5⟩
     go_simp
     with_reducible rfl
    rotate_left
    ·simp only [Act.put,sA,sB,sC,i64_w,i32_w]
     rfl
    refine one_ (i:=48) (N:=some 84) (bm 562949953421311 54) rfl rfl (one_of HT_.out (by kernel_rfl)) (by decide) (fun K hK => ?_)
    refine goes_ Try.func14 (by kernel_rfl) rfl #[.slice AY y.f2.length cY,.string (⟨#[97,100,100]⟩ : ByteArray)] (by rfl) rfl rfl (by simp only [List.map_toArray,List.map_cons,List.map_nil];rfl) ?_
    with_reducible refine (chanceryref1_Has.calls k AY cY y.f2 (⟨#[97,100,100]⟩ : ByteArray) true _ (Kd.C_below HCY.out HB8.out) HMY.out HHA.out).mono ?_
    rintro e w48_ ⟨rfl,hd⟩
    refine ⟨_,rfl,?_⟩
    have HB8:=Aside0.mk (below_step HB8.out hd.below)
    clear hd
    refine hK.out _ _ ⟨(pw_cell_below HB8.out HQ0.out),(pw_cell_below HB8.out HQ1.out),(pw_cell_below HB8.out HQ2.out),(pw_cell_below HB8.out HQ3.out),(pw_cell_below HB8.out HQ4.out),(pw_cell_below HB8.out HQ5.out)⟩ (fun hHeld => ?_)
    clear hK K
    refine norm_ (a':=?_) ?_ ?_
    rotate_left
    ·show Act.put _ (some 84) _ = _
     simp only [Act.put,sA,sB,sC,i64_w,i32_w]
     rfl
    refine pure_ (i:=49) (N:=some 85) (v:=?_) (a':=?_) (bm 1125899906842623 54) rfl rfl (any_of HT_.out (by kernel_rfl)) (fun _ _ _ h => h) (Or.inl ⟨by rfl,?_⟩) ?_ ?_
    rotate_left
    ·intro w'
     go_simp
     with_reducible rfl
    rotate_left
    ·simp only [Act.put,sA,sB,sC,i64_w,i32_w]
     rfl
    refine pure_ (i:=50) (N:=some 86) (v:=?_) (a':=?_) (bm 2251799813685247 54) rfl rfl (any_of HT_.out (by kernel_rfl)) (fun _ _ _ h => h) (Or.inl ⟨by rfl,?_⟩) ?_ ?_
    rotate_left
    ·intro w'
     go_simp
     with_reducible rfl
    rotate_left
    ·simp only [Act.put,sA,sB,sC,i64_w,i32_w]
     rfl
    refine pure_ (i:=51) (N:=some 87) (v:=?_) (a':=?_) (bm 4503599627370495 54) rfl rfl (any_of HT_.out (by kernel_rfl)) (fun _ _ _ h => h) (Or.inl ⟨by rfl,?_⟩) ?_ ?_
    rotate_left
    ·intro w'
     go_simp
     with_reducible rfl
    rotate_left
    ·simp only [Act.put,sA,sB,sC,i64_w,i32_w]
     rfl
    refine pure_ (i:=52) (N:=some 88) (v:=?_) (a':=?_) (bm 9007199254740991 54) rfl rfl (any_of HT_.out (by kernel_rfl)) (fun _ _ _ h => h) (Or.inl ⟨by rfl,?_⟩) ?_ ?_
    rotate_left
    ·intro w'
     go_simp
     with_reducible rfl
    rotate_left
    ·simp only [Act.put,sA,sB,sC,i64_w,i32_w]
     rfl
    refine pure_ (i:=53) (N:=some 89) (v:=?_) (a':=?_) (bm 18014398509481983 54) rfl rfl (any_of HT_.out (by kernel_rfl)) (fun _ _ _ h => h) (Or.inl ⟨by rfl,?_⟩) ?_ ?_
    rotate_left
    ·intro w'
     go_simp
     with_reducible rfl
    rotate_left
    ·simp only [Act.put,sA,sB,sC,i64_w,i32_w]
     rfl
    refine done_ (done_of HT_.out (by kernel_rfl)) ?_
    have HNY:=Aside0.mk (HNX.out _ HB8.out)
    have wk:=HWK.out
    clear hHeld
    go_wp2
    go_roundg gl
    case measure => omega
    case rel => exact ⟨i + 1,by simp [wk],⟨by have:=HI.out;omega⟩,⟨HNY.out.1⟩,⟨HNY.out.2.1⟩,⟨HNY.out.2.2⟩⟩
   | false =>
    have HHC:=Aside0.mk hhc
    have HHA:=Aside0.mk hha
    have t3 : (m == 0) = false:=beq_eq_false_iff_ne.mpr (hcm rfl)
    clear hhc hha hcm ham
    refine start_ (n:=54) (S:=fun w' => w'.cell? (ad1.add (i * 3)) = some (.int .i64 y.f0) ∧ w'.cell? ⟨(ad1.add (i * 3)).block,(ad1.add (i * 3)).off + 1,none⟩ = some (.int .i64 y.f1) ∧ w'.cell? ⟨(ad1.add (i * 3)).block,(ad1.add (i * 3)).off + 2,none⟩ = some (.slice AY y.f2.length cY) ∧ w'.cell? (ad2.add i) = some (.int .i64 (p : Int)) ∧ w'.cell? (ad0.add (p * 3)) = some (.int .i64 x.f0) ∧ w'.cell? ⟨(ad0.add (p * 3)).block,(ad0.add (p * 3)).off + 1,none⟩ = some (.int .i64 x.f1)) (ds:=[]) #[false,false,false,false,false,false,false,false,false,false,false,false,false,false,false,false,false,false,false,false,false,false,false,false,false,false,false,false,false,false,false,false,false,false,false,false,false,false,false,false,false,false,false,false,false,false,false,false,false,false,false,false,false,false] (by kernel_rfl) rfl rfl ⟨(pw_cell_below HB8.out HQ0.out),(pw_cell_below HB8.out HQ1.out),(pw_cell_below HB8.out HQ2.out),(pw_cell_below HB8.out HQ3.out),(pw_cell_below HB8.out HQ4.out),(pw_cell_below HB8.out HQ5.out)⟩ (fun hHeld => ?_)
    refine with_tabW shows.tab8 shows.bits8 (fun HT_ HW_ => ?_)
    refine pure_ (i:=0) (N:=some 36) (v:=?_) (a':=?_) (bm 1 54) rfl rfl (any_of HT_.out (by kernel_rfl)) (fun _ _ _ h => h) (Or.inl ⟨by rfl,?_⟩) ?_ ?_
    rotate_left
    ·intro w'
     go_simp
     with_reducible rfl
    rotate_left
    ·simp only [Act.put,sA,sB,sC,i64_w,i32_w]
     rfl
    refine pure_ (i:=1) (N:=some 37) (v:=?_) (a':=?_) (bm 3 54) rfl rfl (any_of HT_.out (by kernel_rfl)) (fun _ _ _ h => h) (Or.inl ⟨by rfl,?_⟩) ?_ ?_
    rotate_left
    ·intro w'
     go_simp
     with_reducible rfl
    rotate_left
    ·simp only [Act.put,sA,sB,sC,i64_w,i32_w]
     rfl
    refine pure_ (i:=2) (N:=some 38) (v:=?_) (a':=?_) (bm 7 54) rfl rfl (any_of HT_.out (by kernel_rfl)) (fun _ _ _ h => h) (Or.inl ⟨by rfl,?_⟩) ?_ ?_
    rotate_left
    ·intro w'
     go_simp
     with_reducible rfl
    rotate_left
    ·simp only [Act.put,sA,sB,sC,i64_w,i32_w]
     rfl
    refine pure_ (i:=3) (N:=some 39) (v:=?_) (a':=?_) (bm 15 54) rfl rfl (any_of HT_.out (by kernel_rfl)) (fun _ _ _ h => h) (Or.inl ⟨by rfl,?_⟩) ?_ ?_
    rotate_left
    ·intro w'
     go_simp
     with_reducible rfl
    rotate_left
    ·simp only [Act.put,sA,sB,sC,i64_w,i32_w]
     rfl
    refine pure_ (i:=5) (N:=some 41) (v:=?_) (a':=?_) (bm 47 54) rfl rfl (any_of HT_.out (by kernel_rfl)) (fun _ _ _ h => h) (Or.inl ⟨by rfl,?_⟩) ?_ ?_
    rotate_left
    ·intro w'
     go_simp
     with_reducible rfl
    rotate_left
    ·simp only [Act.put,sA,sB,sC,i64_w,i32_w]
     rfl
    refine pure_ (i:=6) (N:=some 42) (v:=?_) (a':=?_) (bm 111 54) rfl rfl (any_of HT_.out (by kernel_rfl)) (fun _ _ _ h => h) (Or.inl ⟨by rfl,?_⟩) ?_ ?_
    rotate_left
    ·intro w'
     go_simp
     with_reducible rfl
    rotate_left
    ·simp only [Act.put,sA,sB,sC,i64_w,i32_w]
     rfl
    refine pure_ (i:=7) (N:=some 43) (v:=?_) (a':=?_) (bm 239 54) rfl rfl (any_of HT_.out (by kernel_rfl)) (fun _ _ _ h => h) (Or.inl ⟨by rfl,?_⟩) ?_ ?_
    rotate_left
    ·intro w'
     go_simp
     with_reducible rfl
    rotate_left
    ·simp only [Act.put,sA,sB,sC,i64_w,i32_w]
     rfl
    refine pure_ (i:=8) (N:=some 44) (v:=?_) (a':=?_) (bm 495 54) rfl rfl (any_of HT_.out (by kernel_rfl)) (fun _ _ _ h => h) (Or.inl ⟨by rfl,?_⟩) ?_ ?_
    rotate_left
    ·intro w'
     go_simp
     with_reducible rfl
    rotate_left
    ·simp only [Act.put,sA,sB,sC,i64_w,i32_w]
     rfl
    refine take_ (i:=4) (N:=some 40) (v:=?_) (a':=?_) (bm 511 54) rfl rfl (take_ofW HT_.out HW_.out (by kernel_rfl)) (fun _ _ _ h => h) (Or.inl ⟨by rfl,?_⟩) hHeld ?_ ?_
    rotate_left
    ·rintro w' ⟨s0,s1,s2,s3,s4,s5⟩
     go_simp
     with_reducible rfl
    rotate_left
    ·simp only [Act.put,sA,sB,sC,i64_w,i32_w]
     rfl
    refine take_ (i:=9) (N:=some 45) (v:=?_) (a':=?_) (bm 1023 54) rfl rfl (take_ofW HT_.out HW_.out (by kernel_rfl)) (fun _ _ _ h => h) (Or.inl ⟨by rfl,?_⟩) hHeld ?_ ?_
    rotate_left
    ·rintro w' ⟨s0,s1,s2,s3,s4,s5⟩
     go_simp
     with_reducible rfl
    rotate_left
    ·simp only [Act.put,sA,sB,sC,i64_w,i32_w]
     rfl
    refine pure_ (i:=10) (N:=some 46) (v:=?_) (a':=?_) (bm 2047 54) rfl rfl (any_of HT_.out (by kernel_rfl)) (fun _ _ _ h => h) (Or.inl ⟨by rfl,?_⟩) ?_ ?_
    rotate_left
    ·intro w'
     go_simp
     with_reducible rfl
    rotate_left
    ·simp only [Act.put,sA,sB,sC,i64_w,i32_w]
     rfl
    refine pure_ (i:=11) (N:=some 47) (v:=?_) (a':=?_) (bm 4095 54) rfl rfl (any_of HT_.out (by kernel_rfl)) (fun _ _ _ h => h) (Or.inl ⟨by rfl,?_⟩) ?_ ?_
    rotate_left
    ·intro w'
     go_simp
     with_reducible rfl
    rotate_left
    ·simp only [Act.put,sA,sB,sC,i64_w,i32_w]
     rfl
    refine take_ (i:=12) (N:=some 48) (v:=?_) (a':=?_) (bm 8191 54) rfl rfl (take_ofW HT_.out HW_.out (by kernel_rfl)) (fun _ _ _ h => h) (Or.inl ⟨by rfl,?_⟩) hHeld ?_ ?_
    rotate_left
    ·rintro w' ⟨s0,s1,s2,s3,s4,s5⟩
     go_simp
     with_reducible rfl
    rotate_left
    ·simp only [Act.put,sA,sB,sC,i64_w,i32_w]
     rfl
    refine pure_ (i:=13) (N:=some 49) (v:=?_) (a':=?_) (bm 16383 54) rfl rfl (any_of HT_.out (by kernel_rfl)) (fun _ _ _ h => h) (Or.inl ⟨by rfl,?_⟩) ?_ ?_
    rotate_left
    ·intro w'
     go_simp
     with_reducible rfl
    rotate_left
    ·simp only [Act.put,sA,sB,sC,i64_w,i32_w]
     rfl
    refine pure_ (i:=14) (N:=some 50) (v:=?_) (a':=?_) (bm 32767 54) rfl rfl (any_of HT_.out (by kernel_rfl)) (fun _ _ _ h => h) (Or.inl ⟨by rfl,?_⟩) ?_ ?_
    rotate_left
    ·intro w'
     go_simp
     with_reducible rfl
    rotate_left
    ·simp only [Act.put,sA,sB,sC,i64_w,i32_w]
     rfl
    refine pure_ (i:=15) (N:=some 51) (v:=?_) (a':=?_) (bm 65535 54) rfl rfl (any_of HT_.out (by kernel_rfl)) (fun _ _ _ h => h) (Or.inl ⟨by rfl,?_⟩) ?_ ?_
    rotate_left
    ·intro w'
     go_simp
     with_reducible rfl
    rotate_left
    ·simp only [Act.put,sA,sB,sC,i64_w,i32_w]
     rfl
    refine pure_ (i:=16) (N:=some 52) (v:=?_) (a':=?_) (bm 131071 54) rfl rfl (any_of HT_.out (by kernel_rfl)) (fun _ _ _ h => h) (Or.inl ⟨by rfl,?_⟩) ?_ ?_
    rotate_left
    ·intro w'
     go_simp
     with_reducible rfl
    rotate_left
    ·simp only [Act.put,sA,sB,sC,i64_w,i32_w]
     rfl
    refine pure_ (i:=17) (N:=some 53) (v:=?_) (a':=?_) (bm 262143 54) rfl rfl (any_of HT_.out (by kernel_rfl)) (fun _ _ _ h => h) (Or.inl ⟨by rfl,?_⟩) ?_ ?_
    rotate_left
    ·intro w'
     go_simp
     with_reducible rfl
    rotate_left
    ·simp only [Act.put,sA,sB,sC,i64_w,i32_w]
     rfl
    refine pure_ (i:=18) (N:=some 54) (v:=?_) (a':=?_) (bm 524287 54) rfl rfl (any_of HT_.out (by kernel_rfl)) (fun _ _ _ h => h) (Or.inl ⟨by rfl,?_⟩) ?_ ?_
    rotate_left
    ·intro w'
     go_simp
     with_reducible rfl
    rotate_left
    ·simp only [Act.put,sA,sB,sC,i64_w,i32_w]
     rfl
    refine pure_ (i:=20) (N:=some 56) (v:=?_) (a':=?_) (bm 1572863 54) rfl rfl (any_of HT_.out (by kernel_rfl)) (fun _ _ _ h => h) (Or.inl ⟨by rfl,?_⟩) ?_ ?_
    rotate_left
    ·intro w'
     go_simp
     with_reducible rfl
    rotate_left
    ·simp only [Act.put,sA,sB,sC,i64_w,i32_w]
     rfl
    refine pure_ (i:=21) (N:=some 57) (v:=?_) (a':=?_) (bm 3670015 54) rfl rfl (any_of HT_.out (by kernel_rfl)) (fun _ _ _ h => h) (Or.inl ⟨by rfl,?_⟩) ?_ ?_
    rotate_left
    ·intro w'
     go_simp
     with_reducible rfl
    rotate_left
    ·simp only [Act.put,sA,sB,sC,i64_w,i32_w]
     rfl
    refine pure_ (i:=22) (N:=some 58) (v:=?_) (a':=?_) (bm 7864319 54) rfl rfl (any_of HT_.out (by kernel_rfl)) (fun _ _ _ h => h) (Or.inl ⟨by rfl,?_⟩) ?_ ?_
    rotate_left
    ·intro w'
     go_simp
     with_reducible rfl
    rotate_left
    ·simp only [Act.put,sA,sB,sC,i64_w,i32_w]
     rfl
    refine pure_ (i:=23) (N:=some 59) (v:=?_) (a':=?_) (bm 16252927 54) rfl rfl (any_of HT_.out (by kernel_rfl)) (fun _ _ _ h => h) (Or.inl ⟨by rfl,?_⟩) ?_ ?_
    rotate_left
    ·intro w'
     go_simp
     with_reducible rfl
    rotate_left
    ·simp only [Act.put,sA,sB,sC,i64_w,i32_w]
     rfl
    refine take_ (i:=19) (N:=some 55) (v:=?_) (a':=?_) (bm 16777215 54) rfl rfl (take_ofW HT_.out HW_.out (by kernel_rfl)) (fun _ _ _ h => h) (Or.inl ⟨by rfl,?_⟩) hHeld ?_ ?_
    rotate_left
    ·rintro w' ⟨s0,s1,s2,s3,s4,s5⟩
     go_simp
     with_reducible rfl
    rotate_left
    ·simp only [Act.put,sA,sB,sC,i64_w,i32_w]
     rfl
    refine take_ (i:=24) (N:=some 60) (v:=?_) (a':=?_) (bm 33554431 54) rfl rfl (take_ofW HT_.out HW_.out (by kernel_rfl)) (fun _ _ _ h => h) (Or.inl ⟨by rfl,?_⟩) hHeld ?_ ?_
    rotate_left
    ·rintro w' ⟨s0,s1,s2,s3,s4,s5⟩
     go_simp
     with_reducible rfl
    rotate_left
    ·simp only [Act.put,sA,sB,sC,i64_w,i32_w]
     rfl
    refine pure_ (i:=25) (N:=some 61) (v:=?_) (a':=?_) (bm 67108863 54) rfl rfl (any_of HT_.out (by kernel_rfl)) (fun _ _ _ h => h) (Or.inl ⟨by rfl,?_⟩) ?_ ?_
    rotate_left
    ·intro w'
     go_simp
     with_reducible rfl
    rotate_left
    ·simp only [Act.put,sA,sB,sC,i64_w,i32_w]
     rfl
    refine pure_ (i:=26) (N:=some 62) (v:=?_) (a':=?_) (bm 134217727 54) rfl rfl (any_of HT_.out (by kernel_rfl)) (fun _ _ _ h => h) (Or.inl ⟨by rfl,?_⟩) ?_ ?_
    rotate_left
    ·intro w'
     go_simp
     with_reducible rfl
    rotate_left
    ·simp only [Act.put,sA,sB,sC,i64_w,i32_w]
     rfl
    refine take_ (i:=27) (N:=some 63) (v:=?_) (a':=?_) (bm 268435455 54) rfl rfl (take_ofW HT_.out HW_.out (by kernel_rfl)) (fun _ _ _ h => h) (Or.inl ⟨by rfl,?_⟩) hHeld ?_ ?_
    rotate_left
    ·rintro w' ⟨s0,s1,s2,s3,s4,s5⟩
     go_simp
     with_reducible rfl
    rotate_left
    ·simp only [Act.put,sA,sB,sC,i64_w,i32_w]
     rfl
    refine pure_ (i:=28) (N:=some 64) (v:=?_) (a':=?_) (bm 536870911 54) rfl rfl (any_of HT_.out (by kernel_rfl)) (fun _ _ _ h => h) (Or.inl ⟨by rfl,?_⟩) ?_ ?_
    rotate_left
    ·intro w'
     go_simp
     with_reducible rfl
    rotate_left
    ·simp only [Act.put,sA,sB,sC,i64_w,i32_w]
     rfl
    refine pure_ (i:=29) (N:=some 65) (v:=?_) (a':=?_) (bm 1073741823 54) rfl rfl (any_of HT_.out (by kernel_rfl)) (fun _ _ _ h => h) (Or.inl ⟨by rfl,?_⟩) ?_ ?_
    rotate_left
    ·intro w'
     go_simp
     with_reducible rfl
    rotate_left
    ·simp only [Act.put,sA,sB,sC,i64_w,i32_w]
     rfl
    refine pure_ (i:=30) (N:=some 66) (v:=?_) (a':=?_) (bm 2147483647 54) rfl rfl (any_of HT_.out (by kernel_rfl)) (fun _ _ _ h => h) (Or.inl ⟨by rfl,?_⟩) ?_ ?_
    rotate_left
    ·intro w'
     go_simp
     with_reducible rfl
    rotate_left
    ·simp only [Act.put,sA,sB,sC,i64_w,i32_w]
     rfl
    refine pure_ (i:=31) (N:=some 67) (v:=?_) (a':=?_) (bm 4294967295 54) rfl rfl (any_of HT_.out (by kernel_rfl)) (fun _ _ _ h => h) (Or.inl ⟨by rfl,?_⟩) ?_ ?_
    rotate_left
    ·intro w'
     go_simp
     with_reducible rfl
    rotate_left
    ·simp only [Act.put,sA,sB,sC,i64_w,i32_w]
     rfl
    refine pure_ (i:=32) (N:=some 68) (v:=?_) (a':=?_) (bm 8589934591 54) rfl rfl (any_of HT_.out (by kernel_rfl)) (fun _ _ _ h => h) (Or.inl ⟨by rfl,?_⟩) ?_ ?_
    rotate_left
    ·intro w'
     go_simp
     with_reducible rfl
    rotate_left
    ·simp only [Act.put,sA,sB,sC,i64_w,i32_w]
     rfl
    refine pure_ (i:=33) (N:=some 69) (v:=?_) (a':=?_) (bm 17179869183 54) rfl rfl (any_of HT_.out (by kernel_rfl)) (fun _ _ _ h => h) (Or.inl ⟨by rfl,?_⟩) ?_ ?_
    rotate_left
    ·intro w'
     go_simp
     with_reducible rfl
    rotate_left
    ·simp only [Act.put,sA,sB,sC,i64_w,i32_w]
     rfl
    refine pure_ (i:=34) (N:=some 70) (v:=?_) (a':=?_) (bm 34359738367 54) rfl rfl (any_of HT_.out (by kernel_rfl)) (fun _ _ _ h => h) (Or.inl ⟨by rfl,?_⟩) ?_ ?_
    rotate_left
    ·intro w'
     go_simp
     with_reducible rfl
    rotate_left
    ·simp only [Act.put,sA,sB,sC,i64_w,i32_w]
     rfl
    refine take_ (i:=35) (N:=some 71) (v:=?_) (a':=?_) (bm 68719476735 54) rfl rfl (take_ofW HT_.out HW_.out (by kernel_rfl)) (fun _ _ _ h => h) (Or.inl ⟨by rfl,?_⟩) hHeld ?_ ?_
    rotate_left
    ·rintro w' ⟨s0,s1,s2,s3,s4,s5⟩
     go_simp
     with_reducible rfl
    rotate_left
    ·simp only [Act.put,sA,sB,sC,i64_w,i32_w]
     rfl
    refine one_ (i:=36) (N:=some 72) (bm 137438953471 54) rfl rfl (one_of HT_.out (by kernel_rfl)) (by decide) (fun K hK => ?_)
    refine goes_ Try.func14 (by kernel_rfl) rfl #[.slice AY y.f2.length cY,.string (⟨#[99,117,116]⟩ : ByteArray)] (by rfl) rfl rfl (by simp only [List.map_toArray,List.map_cons,List.map_nil];rfl) ?_
    with_reducible refine (chanceryref1_Has.calls k AY cY y.f2 (⟨#[99,117,116]⟩ : ByteArray) true _ (Kd.C_below HCY.out HB8.out) HMY.out HHC.out).mono ?_
    rintro e w36_ ⟨rfl,hd⟩
    refine ⟨_,rfl,?_⟩
    have HB8:=Aside0.mk (below_step HB8.out hd.below)
    clear hd
    refine hK.out _ _ ⟨(pw_cell_below HB8.out HQ0.out),(pw_cell_below HB8.out HQ1.out),(pw_cell_below HB8.out HQ2.out),(pw_cell_below HB8.out HQ3.out),(pw_cell_below HB8.out HQ4.out),(pw_cell_below HB8.out HQ5.out)⟩ (fun hHeld => ?_)
    clear hK K
    refine norm_ (a':=?_) ?_ ?_
    rotate_left
    ·show Act.put _ (some 72) _ = _
     simp only [Act.put,sA,sB,sC,i64_w,i32_w]
     rfl
    refine pure_ (i:=37) (N:=some 73) (v:=?_) (a':=?_) (bm 274877906943 54) rfl rfl (any_of HT_.out (by kernel_rfl)) (fun _ _ _ h => h) (Or.inl ⟨by rfl,?_⟩) ?_ ?_
    rotate_left
    ·intro w'
     go_simp
     with_reducible rfl
    rotate_left
    ·simp only [Act.put,sA,sB,sC,i64_w,i32_w]
     rfl
    refine pure_ (i:=38) (N:=some 74) (v:=?_) (a':=?_) (bm 549755813887 54) rfl rfl (any_of HT_.out (by kernel_rfl)) (fun _ _ _ h => h) (Or.inl ⟨by rfl,?_⟩) ?_ ?_
    rotate_left
    ·intro w'
     go_simp
     with_reducible rfl
    rotate_left
    ·simp only [Act.put,sA,sB,sC,i64_w,i32_w]
     rfl
    refine pure_ (i:=39) (N:=some 75) (v:=?_) (a':=?_) (bm 1099511627775 54) rfl rfl (any_of HT_.out (by kernel_rfl)) (fun _ _ _ h => h) (Or.inl ⟨by rfl,?_⟩) ?_ ?_
    rotate_left
    ·intro w'
     go_simp
     with_reducible rfl
    rotate_left
    ·simp only [Act.put,sA,sB,sC,i64_w,i32_w]
     rfl
    refine pure_ (i:=40) (N:=some 76) (v:=?_) (a':=?_) (bm 2199023255551 54) rfl rfl (any_of HT_.out (by kernel_rfl)) (fun _ _ _ h => h) (Or.inl ⟨by rfl,?_⟩) ?_ ?_
    rotate_left
    ·intro w'
     go_simp
     with_reducible rfl
    rotate_left
    ·simp only [Act.put,sA,sB,sC,i64_w,i32_w]
     rfl
    refine pure_ (i:=41) (N:=some 77) (v:=?_) (a':=?_) (bm 4398046511103 54) rfl rfl (any_of HT_.out (by kernel_rfl)) (fun _ _ _ h => h) (Or.inl ⟨by rfl,?_⟩) ?_ ?_
    rotate_left
    ·intro w'
     go_simp
     with_reducible rfl
    rotate_left
    ·simp only [Act.put,sA,sB,sC,i64_w,i32_w]
     rfl
    refine pure_ (i:=42) (N:=some 78) (v:=?_) (a':=?_) (bm 8796093022207 54) rfl rfl (any_of HT_.out (by kernel_rfl)) (fun _ _ _ h => h) (Or.inl ⟨by rfl,?_⟩) ?_ ?_
    rotate_left
    ·intro w'
     go_simp
     with_reducible rfl
    rotate_left
    ·simp only [Act.put,sA,sB,sC,i64_w,i32_w]
     rfl
    refine pure_ (i:=43) (N:=some 79) (v:=?_) (a':=?_) (bm 17592186044415 54) rfl rfl (any_of HT_.out (by kernel_rfl)) (fun _ _ _ h => h) (Or.inl ⟨by rfl,?_⟩) ?_ ?_
    rotate_left
    ·intro w'
     go_simp
     with_reducible rfl
    rotate_left
    ·simp only [Act.put,sA,sB,sC,i64_w,i32_w]
     rfl
    refine pure_ (i:=44) (N:=some 80) (v:=?_) (a':=?_) (bm 35184372088831 54) rfl rfl (any_of HT_.out (by kernel_rfl)) (fun _ _ _ h => h) (Or.inl ⟨by rfl,?_⟩) ?_ ?_
    rotate_left
    ·intro w'
     go_simp
     with_reducible rfl
    rotate_left
    ·simp only [Act.put,sA,sB,sC,i64_w,i32_w]
     rfl
    refine pure_ (i:=45) (N:=some 81) (v:=?_) (a':=?_) (bm 70368744177663 54) rfl rfl (any_of HT_.out (by kernel_rfl)) (fun _ _ _ h => h) (Or.inl ⟨by rfl,?_⟩) ?_ ?_
    rotate_left
    ·intro w'
     go_simp
     with_reducible rfl
    rotate_left
    ·simp only [Act.put,sA,sB,sC,i64_w,i32_w]
     rfl
    refine pure_ (i:=46) (N:=some 82) (v:=?_) (a':=?_) (bm 140737488355327 54) rfl rfl (any_of HT_.out (by kernel_rfl)) (fun _ _ _ h => h) (Or.inl ⟨by rfl,?_⟩) ?_ ?_
    rotate_left
    ·intro w'
     go_simp
     with_reducible rfl
    rotate_left
    ·simp only [Act.put,sA,sB,sC,i64_w,i32_w]
     rfl
    refine take_ (i:=47) (N:=some 83) (v:=?_) (a':=?_) (bm 281474976710655 54) rfl rfl (take_ofW HT_.out HW_.out (by kernel_rfl)) (fun _ _ _ h => h) (Or.inl ⟨by rfl,?_⟩) hHeld ?_ ?_
    rotate_left
    ·rintro w' ⟨s0,s1,s2,s3,s4,s5⟩
     go_simp
     with_reducible rfl
    rotate_left
    ·simp only [Act.put,sA,sB,sC,i64_w,i32_w]
     rfl
    refine one_ (i:=48) (N:=some 84) (bm 562949953421311 54) rfl rfl (one_of HT_.out (by kernel_rfl)) (by decide) (fun K hK => ?_)
    refine goes_ Try.func14 (by kernel_rfl) rfl #[.slice AY y.f2.length cY,.string (⟨#[97,100,100]⟩ : ByteArray)] (by rfl) rfl rfl (by simp only [List.map_toArray,List.map_cons,List.map_nil];rfl) ?_
    with_reducible refine (chanceryref1_Has.calls k AY cY y.f2 (⟨#[97,100,100]⟩ : ByteArray) false _ (Kd.C_below HCY.out HB8.out) HMY.out HHA.out).mono ?_
    rintro e w48_ ⟨rfl,hd⟩
    refine ⟨_,rfl,?_⟩
    have HB8:=Aside0.mk (below_step HB8.out hd.below)
    clear hd
    refine hK.out _ _ ⟨(pw_cell_below HB8.out HQ0.out),(pw_cell_below HB8.out HQ1.out),(pw_cell_below HB8.out HQ2.out),(pw_cell_below HB8.out HQ3.out),(pw_cell_below HB8.out HQ4.out),(pw_cell_below HB8.out HQ5.out)⟩ (fun hHeld => ?_)
    clear hK K
    refine norm_ (a':=?_) ?_ ?_
    rotate_left
    ·show Act.put _ (some 84) _ = _
     simp only [Act.put,sA,sB,sC,i64_w,i32_w]
     rfl
    refine pure_ (i:=49) (N:=some 85) (v:=?_) (a':=?_) (bm 1125899906842623 54) rfl rfl (any_of HT_.out (by kernel_rfl)) (fun _ _ _ h => h) (Or.inl ⟨by rfl,?_⟩) ?_ ?_
    rotate_left
    ·intro w'
     go_simp
     with_reducible rfl
    rotate_left
    ·simp only [Act.put,sA,sB,sC,i64_w,i32_w]
     rfl
    refine pure_ (i:=50) (N:=some 86) (v:=undef) (a':=?_) (bm 2251799813685247 54) rfl rfl (any_of HT_.out (by kernel_rfl)) (fun _ _ _ h => h) (Or.inr ⟨by rfl,rfl⟩) ?_ ?_
    rotate_left
    ·simp only [Act.put,sA,sB,sC,i64_w,i32_w]
     rfl
    refine pure_ (i:=51) (N:=some 87) (v:=undef) (a':=?_) (bm 4503599627370495 54) rfl rfl (any_of HT_.out (by kernel_rfl)) (fun _ _ _ h => h) (Or.inr ⟨by rfl,rfl⟩) ?_ ?_
    rotate_left
    ·simp only [Act.put,sA,sB,sC,i64_w,i32_w]
     rfl
    refine pure_ (i:=52) (N:=some 88) (v:=?_) (a':=?_) (bm 9007199254740991 54) rfl rfl (any_of HT_.out (by kernel_rfl)) (fun _ _ _ h => h) (Or.inl ⟨by rfl,?_⟩) ?_ ?_
    rotate_left
    ·intro w'
     go_simp
     with_reducible rfl
    rotate_left
    ·simp only [Act.put,sA,sB,sC,i64_w,i32_w]
     rfl
    refine pure_ (i:=53) (N:=some 89) (v:=?_) (a':=?_) (bm 18014398509481983 54) rfl rfl (any_of HT_.out (by kernel_rfl)) (fun _ _ _ h => h) (Or.inl ⟨by rfl,?_⟩) ?_ ?_
    rotate_left
    ·intro w'
     go_simp
     with_reducible rfl
    rotate_left
    ·simp only [Act.put,sA,sB,sC,i64_w,i32_w]
     rfl
    refine done_ (done_of HT_.out (by kernel_rfl)) ?_
    have HNY:=Aside0.mk (HNX.out _ HB8.out)
    have wk:=HWK.out
    clear hHeld
    go_wp2
    go_roundg gl
    case measure => omega
    case rel => exact ⟨i + 1,by simp [wk],⟨by have:=HI.out;omega⟩,⟨HNY.out.1⟩,⟨HNY.out.2.1⟩,⟨HNY.out.2.2⟩⟩
  | false =>
   cases ha with
   | true =>
    have HHC:=Aside0.mk hhc
    have HHA:=Aside0.mk hha
    have t4 : (m == 1) = false:=beq_eq_false_iff_ne.mpr (ham rfl)
    clear hhc hha hcm ham
    refine start_ (n:=54) (S:=fun w' => w'.cell? (ad1.add (i * 3)) = some (.int .i64 y.f0) ∧ w'.cell? ⟨(ad1.add (i * 3)).block,(ad1.add (i * 3)).off + 1,none⟩ = some (.int .i64 y.f1) ∧ w'.cell? ⟨(ad1.add (i * 3)).block,(ad1.add (i * 3)).off + 2,none⟩ = some (.slice AY y.f2.length cY) ∧ w'.cell? (ad2.add i) = some (.int .i64 (p : Int)) ∧ w'.cell? (ad0.add (p * 3)) = some (.int .i64 x.f0) ∧ w'.cell? ⟨(ad0.add (p * 3)).block,(ad0.add (p * 3)).off + 1,none⟩ = some (.int .i64 x.f1)) (ds:=[]) #[false,false,false,false,false,false,false,false,false,false,false,false,false,false,false,false,false,false,false,false,false,false,false,false,false,false,false,false,false,false,false,false,false,false,false,false,false,false,false,false,false,false,false,false,false,false,false,false,false,false,false,false,false,false] (by kernel_rfl) rfl rfl ⟨(pw_cell_below HB8.out HQ0.out),(pw_cell_below HB8.out HQ1.out),(pw_cell_below HB8.out HQ2.out),(pw_cell_below HB8.out HQ3.out),(pw_cell_below HB8.out HQ4.out),(pw_cell_below HB8.out HQ5.out)⟩ (fun hHeld => ?_)
    refine with_tabW shows.tab8 shows.bits8 (fun HT_ HW_ => ?_)
    refine pure_ (i:=0) (N:=some 36) (v:=?_) (a':=?_) (bm 1 54) rfl rfl (any_of HT_.out (by kernel_rfl)) (fun _ _ _ h => h) (Or.inl ⟨by rfl,?_⟩) ?_ ?_
    rotate_left
    ·intro w'
     go_simp
     with_reducible rfl
    rotate_left
    ·simp only [Act.put,sA,sB,sC,i64_w,i32_w]
     rfl
    refine pure_ (i:=1) (N:=some 37) (v:=?_) (a':=?_) (bm 3 54) rfl rfl (any_of HT_.out (by kernel_rfl)) (fun _ _ _ h => h) (Or.inl ⟨by rfl,?_⟩) ?_ ?_
    rotate_left
    ·intro w'
     go_simp
     with_reducible rfl
    rotate_left
    ·simp only [Act.put,sA,sB,sC,i64_w,i32_w]
     rfl
    refine pure_ (i:=2) (N:=some 38) (v:=?_) (a':=?_) (bm 7 54) rfl rfl (any_of HT_.out (by kernel_rfl)) (fun _ _ _ h => h) (Or.inl ⟨by rfl,?_⟩) ?_ ?_
    rotate_left
    ·intro w'
     go_simp
     with_reducible rfl
    rotate_left
    ·simp only [Act.put,sA,sB,sC,i64_w,i32_w]
     rfl
    refine pure_ (i:=3) (N:=some 39) (v:=?_) (a':=?_) (bm 15 54) rfl rfl (any_of HT_.out (by kernel_rfl)) (fun _ _ _ h => h) (Or.inl ⟨by rfl,?_⟩) ?_ ?_
    rotate_left
    ·intro w'
     go_simp
     with_reducible rfl
    rotate_left
    ·simp only [Act.put,sA,sB,sC,i64_w,i32_w]
     rfl
    refine pure_ (i:=5) (N:=some 41) (v:=?_) (a':=?_) (bm 47 54) rfl rfl (any_of HT_.out (by kernel_rfl)) (fun _ _ _ h => h) (Or.inl ⟨by rfl,?_⟩) ?_ ?_
    rotate_left
    ·intro w'
     go_simp
     with_reducible rfl
    rotate_left
    ·simp only [Act.put,sA,sB,sC,i64_w,i32_w]
     rfl
    refine pure_ (i:=6) (N:=some 42) (v:=?_) (a':=?_) (bm 111 54) rfl rfl (any_of HT_.out (by kernel_rfl)) (fun _ _ _ h => h) (Or.inl ⟨by rfl,?_⟩) ?_ ?_
    rotate_left
    ·intro w'
     go_simp
     with_reducible rfl
    rotate_left
    ·simp only [Act.put,sA,sB,sC,i64_w,i32_w]
     rfl
    refine pure_ (i:=7) (N:=some 43) (v:=?_) (a':=?_) (bm 239 54) rfl rfl (any_of HT_.out (by kernel_rfl)) (fun _ _ _ h => h) (Or.inl ⟨by rfl,?_⟩) ?_ ?_
    rotate_left
    ·intro w'
     go_simp
     with_reducible rfl
    rotate_left
    ·simp only [Act.put,sA,sB,sC,i64_w,i32_w]
     rfl
    refine pure_ (i:=8) (N:=some 44) (v:=?_) (a':=?_) (bm 495 54) rfl rfl (any_of HT_.out (by kernel_rfl)) (fun _ _ _ h => h) (Or.inl ⟨by rfl,?_⟩) ?_ ?_
    rotate_left
    ·intro w'
     go_simp
     with_reducible rfl
    rotate_left
    ·simp only [Act.put,sA,sB,sC,i64_w,i32_w]
     rfl
    refine take_ (i:=4) (N:=some 40) (v:=?_) (a':=?_) (bm 511 54) rfl rfl (take_ofW HT_.out HW_.out (by kernel_rfl)) (fun _ _ _ h => h) (Or.inl ⟨by rfl,?_⟩) hHeld ?_ ?_
    rotate_left
    ·rintro w' ⟨s0,s1,s2,s3,s4,s5⟩
     go_simp
     with_reducible rfl
    rotate_left
    ·simp only [Act.put,sA,sB,sC,i64_w,i32_w]
     rfl
    refine take_ (i:=9) (N:=some 45) (v:=?_) (a':=?_) (bm 1023 54) rfl rfl (take_ofW HT_.out HW_.out (by kernel_rfl)) (fun _ _ _ h => h) (Or.inl ⟨by rfl,?_⟩) hHeld ?_ ?_
    rotate_left
    ·rintro w' ⟨s0,s1,s2,s3,s4,s5⟩
     go_simp
     with_reducible rfl
    rotate_left
    ·simp only [Act.put,sA,sB,sC,i64_w,i32_w]
     rfl
    refine pure_ (i:=10) (N:=some 46) (v:=?_) (a':=?_) (bm 2047 54) rfl rfl (any_of HT_.out (by kernel_rfl)) (fun _ _ _ h => h) (Or.inl ⟨by rfl,?_⟩) ?_ ?_
    rotate_left
    ·intro w'
     go_simp
     with_reducible rfl
    rotate_left
    ·simp only [Act.put,sA,sB,sC,i64_w,i32_w]
     rfl
    refine pure_ (i:=11) (N:=some 47) (v:=?_) (a':=?_) (bm 4095 54) rfl rfl (any_of HT_.out (by kernel_rfl)) (fun _ _ _ h => h) (Or.inl ⟨by rfl,?_⟩) ?_ ?_
    rotate_left
    ·intro w'
     go_simp
     with_reducible rfl
    rotate_left
    ·simp only [Act.put,sA,sB,sC,i64_w,i32_w]
     rfl
    refine take_ (i:=12) (N:=some 48) (v:=?_) (a':=?_) (bm 8191 54) rfl rfl (take_ofW HT_.out HW_.out (by kernel_rfl)) (fun _ _ _ h => h) (Or.inl ⟨by rfl,?_⟩) hHeld ?_ ?_
    rotate_left
    ·rintro w' ⟨s0,s1,s2,s3,s4,s5⟩
     go_simp
     with_reducible rfl
    rotate_left
    ·simp only [Act.put,sA,sB,sC,i64_w,i32_w]
     rfl
    refine pure_ (i:=13) (N:=some 49) (v:=?_) (a':=?_) (bm 16383 54) rfl rfl (any_of HT_.out (by kernel_rfl)) (fun _ _ _ h => h) (Or.inl ⟨by rfl,?_⟩) ?_ ?_
    rotate_left
    ·intro w'
     go_simp
     with_reducible rfl
    rotate_left
    ·simp only [Act.put,sA,sB,sC,i64_w,i32_w]
     rfl
    refine pure_ (i:=14) (N:=some 50) (v:=?_) (a':=?_) (bm 32767 54) rfl rfl (any_of HT_.out (by kernel_rfl)) (fun _ _ _ h => h) (Or.inl ⟨by rfl,?_⟩) ?_ ?_
    rotate_left
    ·intro w'
     go_simp
     with_reducible rfl
    rotate_left
    ·simp only [Act.put,sA,sB,sC,i64_w,i32_w]
     rfl
    refine pure_ (i:=15) (N:=some 51) (v:=?_) (a':=?_) (bm 65535 54) rfl rfl (any_of HT_.out (by kernel_rfl)) (fun _ _ _ h => h) (Or.inl ⟨by rfl,?_⟩) ?_ ?_
    rotate_left
    ·intro w'
     go_simp
     with_reducible rfl
    rotate_left
    ·simp only [Act.put,sA,sB,sC,i64_w,i32_w]
     rfl
    refine pure_ (i:=16) (N:=some 52) (v:=?_) (a':=?_) (bm 131071 54) rfl rfl (any_of HT_.out (by kernel_rfl)) (fun _ _ _ h => h) (Or.inl ⟨by rfl,?_⟩) ?_ ?_
    rotate_left
    ·intro w'
     go_simp
     with_reducible rfl
    rotate_left
    ·simp only [Act.put,sA,sB,sC,i64_w,i32_w]
     rfl
    refine pure_ (i:=17) (N:=some 53) (v:=?_) (a':=?_) (bm 262143 54) rfl rfl (any_of HT_.out (by kernel_rfl)) (fun _ _ _ h => h) (Or.inl ⟨by rfl,?_⟩) ?_ ?_
    rotate_left
    ·intro w'
     go_simp
     with_reducible rfl
    rotate_left
    ·simp only [Act.put,sA,sB,sC,i64_w,i32_w]
     rfl
    refine pure_ (i:=18) (N:=some 54) (v:=?_) (a':=?_) (bm 524287 54) rfl rfl (any_of HT_.out (by kernel_rfl)) (fun _ _ _ h => h) (Or.inl ⟨by rfl,?_⟩) ?_ ?_
    rotate_left
    ·intro w'
     go_simp
     with_reducible rfl
    rotate_left
    ·simp only [Act.put,sA,sB,sC,i64_w,i32_w]
     rfl
    refine pure_ (i:=20) (N:=some 56) (v:=?_) (a':=?_) (bm 1572863 54) rfl rfl (any_of HT_.out (by kernel_rfl)) (fun _ _ _ h => h) (Or.inl ⟨by rfl,?_⟩) ?_ ?_
    rotate_left
    ·intro w'
     go_simp
     with_reducible rfl
    rotate_left
    ·simp only [Act.put,sA,sB,sC,i64_w,i32_w]
     rfl
    refine pure_ (i:=21) (N:=some 57) (v:=?_) (a':=?_) (bm 3670015 54) rfl rfl (any_of HT_.out (by kernel_rfl)) (fun _ _ _ h => h) (Or.inl ⟨by rfl,?_⟩) ?_ ?_
    rotate_left
    ·intro w'
     go_simp
     with_reducible rfl
    rotate_left
    ·simp only [Act.put,sA,sB,sC,i64_w,i32_w]
     rfl
    refine pure_ (i:=22) (N:=some 58) (v:=?_) (a':=?_) (bm 7864319 54) rfl rfl (any_of HT_.out (by kernel_rfl)) (fun _ _ _ h => h) (Or.inl ⟨by rfl,?_⟩) ?_ ?_
    rotate_left
    ·intro w'
     go_simp
     with_reducible rfl
    rotate_left
    ·simp only [Act.put,sA,sB,sC,i64_w,i32_w]
     rfl
    refine pure_ (i:=23) (N:=some 59) (v:=?_) (a':=?_) (bm 16252927 54) rfl rfl (any_of HT_.out (by kernel_rfl)) (fun _ _ _ h => h) (Or.inl ⟨by rfl,?_⟩) ?_ ?_
    rotate_left
    ·intro w'
     go_simp
     with_reducible rfl
    rotate_left
    ·simp only [Act.put,sA,sB,sC,i64_w,i32_w]
     rfl
    refine take_ (i:=19) (N:=some 55) (v:=?_) (a':=?_) (bm 16777215 54) rfl rfl (take_ofW HT_.out HW_.out (by kernel_rfl)) (fun _ _ _ h => h) (Or.inl ⟨by rfl,?_⟩) hHeld ?_ ?_
    rotate_left
    ·rintro w' ⟨s0,s1,s2,s3,s4,s5⟩
     go_simp
     with_reducible rfl
    rotate_left
    ·simp only [Act.put,sA,sB,sC,i64_w,i32_w]
     rfl
    refine take_ (i:=24) (N:=some 60) (v:=?_) (a':=?_) (bm 33554431 54) rfl rfl (take_ofW HT_.out HW_.out (by kernel_rfl)) (fun _ _ _ h => h) (Or.inl ⟨by rfl,?_⟩) hHeld ?_ ?_
    rotate_left
    ·rintro w' ⟨s0,s1,s2,s3,s4,s5⟩
     go_simp
     with_reducible rfl
    rotate_left
    ·simp only [Act.put,sA,sB,sC,i64_w,i32_w]
     rfl
    refine pure_ (i:=25) (N:=some 61) (v:=?_) (a':=?_) (bm 67108863 54) rfl rfl (any_of HT_.out (by kernel_rfl)) (fun _ _ _ h => h) (Or.inl ⟨by rfl,?_⟩) ?_ ?_
    rotate_left
    ·intro w'
     go_simp
     with_reducible rfl
    rotate_left
    ·simp only [Act.put,sA,sB,sC,i64_w,i32_w]
     rfl
    refine pure_ (i:=26) (N:=some 62) (v:=?_) (a':=?_) (bm 134217727 54) rfl rfl (any_of HT_.out (by kernel_rfl)) (fun _ _ _ h => h) (Or.inl ⟨by rfl,?_⟩) ?_ ?_
    rotate_left
    ·intro w'
     go_simp
     with_reducible rfl
    rotate_left
    ·simp only [Act.put,sA,sB,sC,i64_w,i32_w]
     rfl
    refine take_ (i:=27) (N:=some 63) (v:=?_) (a':=?_) (bm 268435455 54) rfl rfl (take_ofW HT_.out HW_.out (by kernel_rfl)) (fun _ _ _ h => h) (Or.inl ⟨by rfl,?_⟩) hHeld ?_ ?_
    rotate_left
    ·rintro w' ⟨s0,s1,s2,s3,s4,s5⟩
     go_simp
     with_reducible rfl
    rotate_left
    ·simp only [Act.put,sA,sB,sC,i64_w,i32_w]
     rfl
    refine pure_ (i:=28) (N:=some 64) (v:=?_) (a':=?_) (bm 536870911 54) rfl rfl (any_of HT_.out (by kernel_rfl)) (fun _ _ _ h => h) (Or.inl ⟨by rfl,?_⟩) ?_ ?_
    rotate_left
    ·intro w'
     go_simp
     with_reducible rfl
    rotate_left
    ·simp only [Act.put,sA,sB,sC,i64_w,i32_w]
     rfl
    refine pure_ (i:=29) (N:=some 65) (v:=?_) (a':=?_) (bm 1073741823 54) rfl rfl (any_of HT_.out (by kernel_rfl)) (fun _ _ _ h => h) (Or.inl ⟨by rfl,?_⟩) ?_ ?_
    rotate_left
    ·intro w'
     go_simp
     with_reducible rfl
    rotate_left
    ·simp only [Act.put,sA,sB,sC,i64_w,i32_w]
     rfl
    refine pure_ (i:=30) (N:=some 66) (v:=?_) (a':=?_) (bm 2147483647 54) rfl rfl (any_of HT_.out (by kernel_rfl)) (fun _ _ _ h => h) (Or.inl ⟨by rfl,?_⟩) ?_ ?_
    rotate_left
    ·intro w'
     go_simp
     with_reducible rfl
    rotate_left
    ·simp only [Act.put,sA,sB,sC,i64_w,i32_w]
     rfl
    refine pure_ (i:=31) (N:=some 67) (v:=?_) (a':=?_) (bm 4294967295 54) rfl rfl (any_of HT_.out (by kernel_rfl)) (fun _ _ _ h => h) (Or.inl ⟨by rfl,?_⟩) ?_ ?_
    rotate_left
    ·intro w'
     go_simp
     with_reducible rfl
    rotate_left
    ·simp only [Act.put,sA,sB,sC,i64_w,i32_w]
     rfl
    refine pure_ (i:=32) (N:=some 68) (v:=?_) (a':=?_) (bm 8589934591 54) rfl rfl (any_of HT_.out (by kernel_rfl)) (fun _ _ _ h => h) (Or.inl ⟨by rfl,?_⟩) ?_ ?_
    rotate_left
    ·intro w'
     go_simp
     with_reducible rfl
    rotate_left
    ·simp only [Act.put,sA,sB,sC,i64_w,i32_w]
     rfl
    refine pure_ (i:=33) (N:=some 69) (v:=?_) (a':=?_) (bm 17179869183 54) rfl rfl (any_of HT_.out (by kernel_rfl)) (fun _ _ _ h => h) (Or.inl ⟨by rfl,?_⟩) ?_ ?_
    rotate_left
    ·intro w'
     go_simp
     with_reducible rfl
    rotate_left
    ·simp only [Act.put,sA,sB,sC,i64_w,i32_w]
     rfl
    refine pure_ (i:=34) (N:=some 70) (v:=?_) (a':=?_) (bm 34359738367 54) rfl rfl (any_of HT_.out (by kernel_rfl)) (fun _ _ _ h => h) (Or.inl ⟨by rfl,?_⟩) ?_ ?_
    rotate_left
    ·intro w'
     go_simp
     with_reducible rfl
    rotate_left
    ·simp only [Act.put,sA,sB,sC,i64_w,i32_w]
     rfl
    refine take_ (i:=35) (N:=some 71) (v:=?_) (a':=?_) (bm 68719476735 54) rfl rfl (take_ofW HT_.out HW_.out (by kernel_rfl)) (fun _ _ _ h => h) (Or.inl ⟨by rfl,?_⟩) hHeld ?_ ?_
    rotate_left
    ·rintro w' ⟨s0,s1,s2,s3,s4,s5⟩
     go_simp
     with_reducible rfl
    rotate_left
    ·simp only [Act.put,sA,sB,sC,i64_w,i32_w]
     rfl
    refine one_ (i:=36) (N:=some 72) (bm 137438953471 54) rfl rfl (one_of HT_.out (by kernel_rfl)) (by decide) (fun K hK => ?_)
    refine goes_ Try.func14 (by kernel_rfl) rfl #[.slice AY y.f2.length cY,.string (⟨#[99,117,116]⟩ : ByteArray)] (by rfl) rfl rfl (by simp only [List.map_toArray,List.map_cons,List.map_nil];rfl) ?_
    with_reducible refine (chanceryref1_Has.calls k AY cY y.f2 (⟨#[99,117,116]⟩ : ByteArray) false _ (Kd.C_below HCY.out HB8.out) HMY.out HHC.out).mono ?_
    rintro e w36_ ⟨rfl,hd⟩
    refine ⟨_,rfl,?_⟩
    have HB8:=Aside0.mk (below_step HB8.out hd.below)
    clear hd
    refine hK.out _ _ ⟨(pw_cell_below HB8.out HQ0.out),(pw_cell_below HB8.out HQ1.out),(pw_cell_below HB8.out HQ2.out),(pw_cell_below HB8.out HQ3.out),(pw_cell_below HB8.out HQ4.out),(pw_cell_below HB8.out HQ5.out)⟩ (fun hHeld => ?_)
    clear hK K
    refine norm_ (a':=?_) ?_ ?_
    rotate_left
    ·show Act.put _ (some 72) _ = _
     simp only [Act.put,sA,sB,sC,i64_w,i32_w]
     rfl
    refine pure_ (i:=37) (N:=some 73) (v:=?_) (a':=?_) (bm 274877906943 54) rfl rfl (any_of HT_.out (by kernel_rfl)) (fun _ _ _ h => h) (Or.inl ⟨by rfl,?_⟩) ?_ ?_
    rotate_left
    ·intro w'
     go_simp
     with_reducible rfl
    rotate_left
    ·simp only [Act.put,sA,sB,sC,i64_w,i32_w]
     rfl
    refine pure_ (i:=38) (N:=some 74) (v:=undef) (a':=?_) (bm 549755813887 54) rfl rfl (any_of HT_.out (by kernel_rfl)) (fun _ _ _ h => h) (Or.inr ⟨by rfl,rfl⟩) ?_ ?_
    rotate_left
    ·simp only [Act.put,sA,sB,sC,i64_w,i32_w]
     rfl
    refine pure_ (i:=39) (N:=some 75) (v:=undef) (a':=?_) (bm 1099511627775 54) rfl rfl (any_of HT_.out (by kernel_rfl)) (fun _ _ _ h => h) (Or.inr ⟨by rfl,rfl⟩) ?_ ?_
    rotate_left
    ·simp only [Act.put,sA,sB,sC,i64_w,i32_w]
     rfl
    refine pure_ (i:=40) (N:=some 76) (v:=?_) (a':=?_) (bm 2199023255551 54) rfl rfl (any_of HT_.out (by kernel_rfl)) (fun _ _ _ h => h) (Or.inl ⟨by rfl,?_⟩) ?_ ?_
    rotate_left
    ·intro w'
     go_simp
     with_reducible rfl
    rotate_left
    ·simp only [Act.put,sA,sB,sC,i64_w,i32_w]
     rfl
    refine pure_ (i:=41) (N:=some 77) (v:=?_) (a':=?_) (bm 4398046511103 54) rfl rfl (any_of HT_.out (by kernel_rfl)) (fun _ _ _ h => h) (Or.inl ⟨by rfl,?_⟩) ?_ ?_
    rotate_left
    ·intro w'
     go_simp
     with_reducible rfl
    rotate_left
    ·simp only [Act.put,sA,sB,sC,i64_w,i32_w]
     rfl
    refine pure_ (i:=42) (N:=some 78) (v:=?_) (a':=?_) (bm 8796093022207 54) rfl rfl (any_of HT_.out (by kernel_rfl)) (fun _ _ _ h => h) (Or.inl ⟨by rfl,?_⟩) ?_ ?_
    rotate_left
    ·intro w'
     go_simp
     with_reducible rfl
    rotate_left
    ·simp only [Act.put,sA,sB,sC,i64_w,i32_w]
     rfl
    refine pure_ (i:=43) (N:=some 79) (v:=?_) (a':=?_) (bm 17592186044415 54) rfl rfl (any_of HT_.out (by kernel_rfl)) (fun _ _ _ h => h) (Or.inl ⟨by rfl,?_⟩) ?_ ?_
    rotate_left
    ·intro w'
     go_simp
     with_reducible rfl
    rotate_left
    ·simp only [Act.put,sA,sB,sC,i64_w,i32_w]
     rfl
    refine pure_ (i:=44) (N:=some 80) (v:=?_) (a':=?_) (bm 35184372088831 54) rfl rfl (any_of HT_.out (by kernel_rfl)) (fun _ _ _ h => h) (Or.inl ⟨by rfl,?_⟩) ?_ ?_
    rotate_left
    ·intro w'
     go_simp
     with_reducible rfl
    rotate_left
    ·simp only [Act.put,sA,sB,sC,i64_w,i32_w]
     rfl
    refine pure_ (i:=45) (N:=some 81) (v:=?_) (a':=?_) (bm 70368744177663 54) rfl rfl (any_of HT_.out (by kernel_rfl)) (fun _ _ _ h => h) (Or.inl ⟨by rfl,?_⟩) ?_ ?_
    rotate_left
    ·intro w'
     go_simp
     with_reducible rfl
    rotate_left
    ·simp only [Act.put,sA,sB,sC,i64_w,i32_w]
     rfl
    refine pure_ (i:=46) (N:=some 82) (v:=?_) (a':=?_) (bm 140737488355327 54) rfl rfl (any_of HT_.out (by kernel_rfl)) (fun _ _ _ h => h) (Or.inl ⟨by rfl,?_⟩) ?_ ?_
    rotate_left
    ·intro w'
     go_simp
     with_reducible rfl
    rotate_left
    ·simp only [Act.put,sA,sB,sC,i64_w,i32_w]
     rfl
    refine take_ (i:=47) (N:=some 83) (v:=?_) (a':=?_) (bm 281474976710655 54) rfl rfl (take_ofW HT_.out HW_.out (by kernel_rfl)) (fun _ _ _ h => h) (Or.inl ⟨by rfl,?_⟩) hHeld ?_ ?_
    rotate_left
    ·rintro w' ⟨s0,s1,s2,s3,s4,s5⟩
     go_simp
     with_reducible rfl
    rotate_left
    ·simp only [Act.put,sA,sB,sC,i64_w,i32_w]
     rfl
    refine one_ (i:=48) (N:=some 84) (bm 562949953421311 54) rfl rfl (one_of HT_.out (by kernel_rfl)) (by decide) (fun K hK => ?_)
    refine goes_ Try.func14 (by kernel_rfl) rfl #[.slice AY y.f2.length cY,.string (⟨#[97,100,100]⟩ : ByteArray)] (by rfl) rfl rfl (by simp only [List.map_toArray,List.map_cons,List.map_nil];rfl) ?_
    with_reducible refine (chanceryref1_Has.calls k AY cY y.f2 (⟨#[97,100,100]⟩ : ByteArray) true _ (Kd.C_below HCY.out HB8.out) HMY.out HHA.out).mono ?_
    rintro e w48_ ⟨rfl,hd⟩
    refine ⟨_,rfl,?_⟩
    have HB8:=Aside0.mk (below_step HB8.out hd.below)
    clear hd
    refine hK.out _ _ ⟨(pw_cell_below HB8.out HQ0.out),(pw_cell_below HB8.out HQ1.out),(pw_cell_below HB8.out HQ2.out),(pw_cell_below HB8.out HQ3.out),(pw_cell_below HB8.out HQ4.out),(pw_cell_below HB8.out HQ5.out)⟩ (fun hHeld => ?_)
    clear hK K
    refine norm_ (a':=?_) ?_ ?_
    rotate_left
    ·show Act.put _ (some 84) _ = _
     simp only [Act.put,sA,sB,sC,i64_w,i32_w]
     rfl
    refine pure_ (i:=49) (N:=some 85) (v:=?_) (a':=?_) (bm 1125899906842623 54) rfl rfl (any_of HT_.out (by kernel_rfl)) (fun _ _ _ h => h) (Or.inl ⟨by rfl,?_⟩) ?_ ?_
    rotate_left
    ·intro w'
     go_simp
     with_reducible rfl
    rotate_left
    ·simp only [Act.put,sA,sB,sC,i64_w,i32_w]
     rfl
    refine pure_ (i:=50) (N:=some 86) (v:=?_) (a':=?_) (bm 2251799813685247 54) rfl rfl (any_of HT_.out (by kernel_rfl)) (fun _ _ _ h => h) (Or.inl ⟨by rfl,?_⟩) ?_ ?_
    rotate_left
    ·intro w'
     go_simp
     with_reducible rfl
    rotate_left
    ·simp only [Act.put,sA,sB,sC,i64_w,i32_w]
     rfl
    refine pure_ (i:=51) (N:=some 87) (v:=?_) (a':=?_) (bm 4503599627370495 54) rfl rfl (any_of HT_.out (by kernel_rfl)) (fun _ _ _ h => h) (Or.inl ⟨by rfl,?_⟩) ?_ ?_
    rotate_left
    ·intro w'
     go_simp
     with_reducible rfl
    rotate_left
    ·simp only [Act.put,sA,sB,sC,i64_w,i32_w]
     rfl
    refine pure_ (i:=52) (N:=some 88) (v:=?_) (a':=?_) (bm 9007199254740991 54) rfl rfl (any_of HT_.out (by kernel_rfl)) (fun _ _ _ h => h) (Or.inl ⟨by rfl,?_⟩) ?_ ?_
    rotate_left
    ·intro w'
     go_simp
     with_reducible rfl
    rotate_left
    ·simp only [Act.put,sA,sB,sC,i64_w,i32_w]
     rfl
    refine pure_ (i:=53) (N:=some 89) (v:=?_) (a':=?_) (bm 18014398509481983 54) rfl rfl (any_of HT_.out (by kernel_rfl)) (fun _ _ _ h => h) (Or.inl ⟨by rfl,?_⟩) ?_ ?_
    rotate_left
    ·intro w'
     go_simp
     with_reducible rfl
    rotate_left
    ·simp only [Act.put,sA,sB,sC,i64_w,i32_w]
     rfl
    refine done_ (done_of HT_.out (by kernel_rfl)) ?_
    have HNY:=Aside0.mk (HNX.out _ HB8.out)
    have wk:=HWK.out
    clear hHeld
    go_wp2
    go_roundg gl
    case measure => omega
    case rel => exact ⟨i + 1,by simp [wk],⟨by have:=HI.out;omega⟩,⟨HNY.out.1⟩,⟨HNY.out.2.1⟩,⟨HNY.out.2.2⟩⟩
   | false =>
    have HHC:=Aside0.mk hhc
    have HHA:=Aside0.mk hha
    clear hhc hha hcm ham
    refine start_ (n:=54) (S:=fun w' => w'.cell? (ad1.add (i * 3)) = some (.int .i64 y.f0) ∧ w'.cell? ⟨(ad1.add (i * 3)).block,(ad1.add (i * 3)).off + 1,none⟩ = some (.int .i64 y.f1) ∧ w'.cell? ⟨(ad1.add (i * 3)).block,(ad1.add (i * 3)).off + 2,none⟩ = some (.slice AY y.f2.length cY) ∧ w'.cell? (ad2.add i) = some (.int .i64 (p : Int)) ∧ w'.cell? (ad0.add (p * 3)) = some (.int .i64 x.f0) ∧ w'.cell? ⟨(ad0.add (p * 3)).block,(ad0.add (p * 3)).off + 1,none⟩ = some (.int .i64 x.f1)) (ds:=[]) #[false,false,false,false,false,false,false,false,false,false,false,false,false,false,false,false,false,false,false,false,false,false,false,false,false,false,false,false,false,false,false,false,false,false,false,false,false,false,false,false,false,false,false,false,false,false,false,false,false,false,false,false,false,false] (by kernel_rfl) rfl rfl ⟨(pw_cell_below HB8.out HQ0.out),(pw_cell_below HB8.out HQ1.out),(pw_cell_below HB8.out HQ2.out),(pw_cell_below HB8.out HQ3.out),(pw_cell_below HB8.out HQ4.out),(pw_cell_below HB8.out HQ5.out)⟩ (fun hHeld => ?_)
    refine with_tabW shows.tab8 shows.bits8 (fun HT_ HW_ => ?_)
    refine pure_ (i:=0) (N:=some 36) (v:=?_) (a':=?_) (bm 1 54) rfl rfl (any_of HT_.out (by kernel_rfl)) (fun _ _ _ h => h) (Or.inl ⟨by rfl,?_⟩) ?_ ?_
    rotate_left
    ·intro w'
     go_simp
     with_reducible rfl
    rotate_left
    ·simp only [Act.put,sA,sB,sC,i64_w,i32_w]
     rfl
    refine pure_ (i:=1) (N:=some 37) (v:=?_) (a':=?_) (bm 3 54) rfl rfl (any_of HT_.out (by kernel_rfl)) (fun _ _ _ h => h) (Or.inl ⟨by rfl,?_⟩) ?_ ?_
    rotate_left
    ·intro w'
     go_simp
     with_reducible rfl
    rotate_left
    ·simp only [Act.put,sA,sB,sC,i64_w,i32_w]
     rfl
    refine pure_ (i:=2) (N:=some 38) (v:=?_) (a':=?_) (bm 7 54) rfl rfl (any_of HT_.out (by kernel_rfl)) (fun _ _ _ h => h) (Or.inl ⟨by rfl,?_⟩) ?_ ?_
    rotate_left
    ·intro w'
     go_simp
     with_reducible rfl
    rotate_left
    ·simp only [Act.put,sA,sB,sC,i64_w,i32_w]
     rfl
    refine pure_ (i:=3) (N:=some 39) (v:=?_) (a':=?_) (bm 15 54) rfl rfl (any_of HT_.out (by kernel_rfl)) (fun _ _ _ h => h) (Or.inl ⟨by rfl,?_⟩) ?_ ?_
    rotate_left
    ·intro w'
     go_simp
     with_reducible rfl
    rotate_left
    ·simp only [Act.put,sA,sB,sC,i64_w,i32_w]
     rfl
    refine pure_ (i:=5) (N:=some 41) (v:=?_) (a':=?_) (bm 47 54) rfl rfl (any_of HT_.out (by kernel_rfl)) (fun _ _ _ h => h) (Or.inl ⟨by rfl,?_⟩) ?_ ?_
    rotate_left
    ·intro w'
     go_simp
     with_reducible rfl
    rotate_left
    ·simp only [Act.put,sA,sB,sC,i64_w,i32_w]
     rfl
    refine pure_ (i:=6) (N:=some 42) (v:=?_) (a':=?_) (bm 111 54) rfl rfl (any_of HT_.out (by kernel_rfl)) (fun _ _ _ h => h) (Or.inl ⟨by rfl,?_⟩) ?_ ?_
    rotate_left
    ·intro w'
     go_simp
     with_reducible rfl
    rotate_left
    ·simp only [Act.put,sA,sB,sC,i64_w,i32_w]
     rfl
    refine pure_ (i:=7) (N:=some 43) (v:=?_) (a':=?_) (bm 239 54) rfl rfl (any_of HT_.out (by kernel_rfl)) (fun _ _ _ h => h) (Or.inl ⟨by rfl,?_⟩) ?_ ?_
    rotate_left
    ·intro w'
     go_simp
     with_reducible rfl
    rotate_left
    ·simp only [Act.put,sA,sB,sC,i64_w,i32_w]
     rfl
    refine pure_ (i:=8) (N:=some 44) (v:=?_) (a':=?_) (bm 495 54) rfl rfl (any_of HT_.out (by kernel_rfl)) (fun _ _ _ h => h) (Or.inl ⟨by rfl,?_⟩) ?_ ?_
    rotate_left
    ·intro w'
     go_simp
     with_reducible rfl
    rotate_left
    ·simp only [Act.put,sA,sB,sC,i64_w,i32_w]
     rfl
    refine take_ (i:=4) (N:=some 40) (v:=?_) (a':=?_) (bm 511 54) rfl rfl (take_ofW HT_.out HW_.out (by kernel_rfl)) (fun _ _ _ h => h) (Or.inl ⟨by rfl,?_⟩) hHeld ?_ ?_
    rotate_left
    ·rintro w' ⟨s0,s1,s2,s3,s4,s5⟩
     go_simp
     with_reducible rfl
    rotate_left
    ·simp only [Act.put,sA,sB,sC,i64_w,i32_w]
     rfl
    refine take_ (i:=9) (N:=some 45) (v:=?_) (a':=?_) (bm 1023 54) rfl rfl (take_ofW HT_.out HW_.out (by kernel_rfl)) (fun _ _ _ h => h) (Or.inl ⟨by rfl,?_⟩) hHeld ?_ ?_
    rotate_left
    ·rintro w' ⟨s0,s1,s2,s3,s4,s5⟩
     go_simp
     with_reducible rfl
    rotate_left
    ·simp only [Act.put,sA,sB,sC,i64_w,i32_w]
     rfl
    refine pure_ (i:=10) (N:=some 46) (v:=?_) (a':=?_) (bm 2047 54) rfl rfl (any_of HT_.out (by kernel_rfl)) (fun _ _ _ h => h) (Or.inl ⟨by rfl,?_⟩) ?_ ?_
    rotate_left
    ·intro w'
     go_simp
     with_reducible rfl
    rotate_left
    ·simp only [Act.put,sA,sB,sC,i64_w,i32_w]
     rfl
    refine pure_ (i:=11) (N:=some 47) (v:=?_) (a':=?_) (bm 4095 54) rfl rfl (any_of HT_.out (by kernel_rfl)) (fun _ _ _ h => h) (Or.inl ⟨by rfl,?_⟩) ?_ ?_
    rotate_left
    ·intro w'
     go_simp
     with_reducible rfl
    rotate_left
    ·simp only [Act.put,sA,sB,sC,i64_w,i32_w]
     rfl
    refine take_ (i:=12) (N:=some 48) (v:=?_) (a':=?_) (bm 8191 54) rfl rfl (take_ofW HT_.out HW_.out (by kernel_rfl)) (fun _ _ _ h => h) (Or.inl ⟨by rfl,?_⟩) hHeld ?_ ?_
    rotate_left
    ·rintro w' ⟨s0,s1,s2,s3,s4,s5⟩
     go_simp
     with_reducible rfl
    rotate_left
    ·simp only [Act.put,sA,sB,sC,i64_w,i32_w]
     rfl
    refine pure_ (i:=13) (N:=some 49) (v:=?_) (a':=?_) (bm 16383 54) rfl rfl (any_of HT_.out (by kernel_rfl)) (fun _ _ _ h => h) (Or.inl ⟨by rfl,?_⟩) ?_ ?_
    rotate_left
    ·intro w'
     go_simp
     with_reducible rfl
    rotate_left
    ·simp only [Act.put,sA,sB,sC,i64_w,i32_w]
     rfl
    refine pure_ (i:=14) (N:=some 50) (v:=?_) (a':=?_) (bm 32767 54) rfl rfl (any_of HT_.out (by kernel_rfl)) (fun _ _ _ h => h) (Or.inl ⟨by rfl,?_⟩) ?_ ?_
    rotate_left
    ·intro w'
     go_simp
     with_reducible rfl
    rotate_left
    ·simp only [Act.put,sA,sB,sC,i64_w,i32_w]
     rfl
    refine pure_ (i:=15) (N:=some 51) (v:=?_) (a':=?_) (bm 65535 54) rfl rfl (any_of HT_.out (by kernel_rfl)) (fun _ _ _ h => h) (Or.inl ⟨by rfl,?_⟩) ?_ ?_
    rotate_left
    ·intro w'
     go_simp
     with_reducible rfl
    rotate_left
    ·simp only [Act.put,sA,sB,sC,i64_w,i32_w]
     rfl
    refine pure_ (i:=16) (N:=some 52) (v:=?_) (a':=?_) (bm 131071 54) rfl rfl (any_of HT_.out (by kernel_rfl)) (fun _ _ _ h => h) (Or.inl ⟨by rfl,?_⟩) ?_ ?_
    rotate_left
    ·intro w'
     go_simp
     with_reducible rfl
    rotate_left
    ·simp only [Act.put,sA,sB,sC,i64_w,i32_w]
     rfl
    refine pure_ (i:=17) (N:=some 53) (v:=?_) (a':=?_) (bm 262143 54) rfl rfl (any_of HT_.out (by kernel_rfl)) (fun _ _ _ h => h) (Or.inl ⟨by rfl,?_⟩) ?_ ?_
    rotate_left
    ·intro w'
     go_simp
     with_reducible rfl
    rotate_left
    ·simp only [Act.put,sA,sB,sC,i64_w,i32_w]
     rfl
    refine pure_ (i:=18) (N:=some 54) (v:=?_) (a':=?_) (bm 524287 54) rfl rfl (any_of HT_.out (by kernel_rfl)) (fun _ _ _ h => h) (Or.inl ⟨by rfl,?_⟩) ?_ ?_
    rotate_left
    ·intro w'
     go_simp
     with_reducible rfl
    rotate_left
    ·simp only [Act.put,sA,sB,sC,i64_w,i32_w]
     rfl
    refine pure_ (i:=20) (N:=some 56) (v:=?_) (a':=?_) (bm 1572863 54) rfl rfl (any_of HT_.out (by kernel_rfl)) (fun _ _ _ h => h) (Or.inl ⟨by rfl,?_⟩) ?_ ?_
    rotate_left
    ·intro w'
     go_simp
     with_reducible rfl
    rotate_left
    ·simp only [Act.put,sA,sB,sC,i64_w,i32_w]
     rfl
    refine pure_ (i:=21) (N:=some 57) (v:=?_) (a':=?_) (bm 3670015 54) rfl rfl (any_of HT_.out (by kernel_rfl)) (fun _ _ _ h => h) (Or.inl ⟨by rfl,?_⟩) ?_ ?_
    rotate_left
    ·intro w'
     go_simp
     with_reducible rfl
    rotate_left
    ·simp only [Act.put,sA,sB,sC,i64_w,i32_w]
     rfl
    refine pure_ (i:=22) (N:=some 58) (v:=?_) (a':=?_) (bm 7864319 54) rfl rfl (any_of HT_.out (by kernel_rfl)) (fun _ _ _ h => h) (Or.inl ⟨by rfl,?_⟩) ?_ ?_
    rotate_left
    ·intro w'
     go_simp
     with_reducible rfl
    rotate_left
    ·simp only [Act.put,sA,sB,sC,i64_w,i32_w]
     rfl
    refine pure_ (i:=23) (N:=some 59) (v:=?_) (a':=?_) (bm 16252927 54) rfl rfl (any_of HT_.out (by kernel_rfl)) (fun _ _ _ h => h) (Or.inl ⟨by rfl,?_⟩) ?_ ?_
    rotate_left
    ·intro w'
     go_simp
     with_reducible rfl
    rotate_left
    ·simp only [Act.put,sA,sB,sC,i64_w,i32_w]
     rfl
    refine take_ (i:=19) (N:=some 55) (v:=?_) (a':=?_) (bm 16777215 54) rfl rfl (take_ofW HT_.out HW_.out (by kernel_rfl)) (fun _ _ _ h => h) (Or.inl ⟨by rfl,?_⟩) hHeld ?_ ?_
    rotate_left
    ·rintro w' ⟨s0,s1,s2,s3,s4,s5⟩
     go_simp
     with_reducible rfl
    rotate_left
    ·simp only [Act.put,sA,sB,sC,i64_w,i32_w]
     rfl
    refine take_ (i:=24) (N:=some 60) (v:=?_) (a':=?_) (bm 33554431 54) rfl rfl (take_ofW HT_.out HW_.out (by kernel_rfl)) (fun _ _ _ h => h) (Or.inl ⟨by rfl,?_⟩) hHeld ?_ ?_
    rotate_left
    ·rintro w' ⟨s0,s1,s2,s3,s4,s5⟩
     go_simp
     with_reducible rfl
    rotate_left
    ·simp only [Act.put,sA,sB,sC,i64_w,i32_w]
     rfl
    refine pure_ (i:=25) (N:=some 61) (v:=?_) (a':=?_) (bm 67108863 54) rfl rfl (any_of HT_.out (by kernel_rfl)) (fun _ _ _ h => h) (Or.inl ⟨by rfl,?_⟩) ?_ ?_
    rotate_left
    ·intro w'
     go_simp
     with_reducible rfl
    rotate_left
    ·simp only [Act.put,sA,sB,sC,i64_w,i32_w]
     rfl
    refine pure_ (i:=26) (N:=some 62) (v:=?_) (a':=?_) (bm 134217727 54) rfl rfl (any_of HT_.out (by kernel_rfl)) (fun _ _ _ h => h) (Or.inl ⟨by rfl,?_⟩) ?_ ?_
    rotate_left
    ·intro w'
     go_simp
     with_reducible rfl
    rotate_left
    ·simp only [Act.put,sA,sB,sC,i64_w,i32_w]
     rfl
    refine take_ (i:=27) (N:=some 63) (v:=?_) (a':=?_) (bm 268435455 54) rfl rfl (take_ofW HT_.out HW_.out (by kernel_rfl)) (fun _ _ _ h => h) (Or.inl ⟨by rfl,?_⟩) hHeld ?_ ?_
    rotate_left
    ·rintro w' ⟨s0,s1,s2,s3,s4,s5⟩
     go_simp
     with_reducible rfl
    rotate_left
    ·simp only [Act.put,sA,sB,sC,i64_w,i32_w]
     rfl
    refine pure_ (i:=28) (N:=some 64) (v:=?_) (a':=?_) (bm 536870911 54) rfl rfl (any_of HT_.out (by kernel_rfl)) (fun _ _ _ h => h) (Or.inl ⟨by rfl,?_⟩) ?_ ?_
    rotate_left
    ·intro w'
     go_simp
     with_reducible rfl
    rotate_left
    ·simp only [Act.put,sA,sB,sC,i64_w,i32_w]
     rfl
    refine pure_ (i:=29) (N:=some 65) (v:=?_) (a':=?_) (bm 1073741823 54) rfl rfl (any_of HT_.out (by kernel_rfl)) (fun _ _ _ h => h) (Or.inl ⟨by rfl,?_⟩) ?_ ?_
    rotate_left
    ·intro w'
     go_simp
     with_reducible rfl
    rotate_left
    ·simp only [Act.put,sA,sB,sC,i64_w,i32_w]
     rfl
    refine pure_ (i:=30) (N:=some 66) (v:=?_) (a':=?_) (bm 2147483647 54) rfl rfl (any_of HT_.out (by kernel_rfl)) (fun _ _ _ h => h) (Or.inl ⟨by rfl,?_⟩) ?_ ?_
    rotate_left
    ·intro w'
     go_simp
     with_reducible rfl
    rotate_left
    ·simp only [Act.put,sA,sB,sC,i64_w,i32_w]
     rfl
    refine pure_ (i:=31) (N:=some 67) (v:=?_) (a':=?_) (bm 4294967295 54) rfl rfl (any_of HT_.out (by kernel_rfl)) (fun _ _ _ h => h) (Or.inl ⟨by rfl,?_⟩) ?_ ?_
    rotate_left
    ·intro w'
     go_simp
     with_reducible rfl
    rotate_left
    ·simp only [Act.put,sA,sB,sC,i64_w,i32_w]
     rfl
    refine pure_ (i:=32) (N:=some 68) (v:=?_) (a':=?_) (bm 8589934591 54) rfl rfl (any_of HT_.out (by kernel_rfl)) (fun _ _ _ h => h) (Or.inl ⟨by rfl,?_⟩) ?_ ?_
    rotate_left
    ·intro w'
     go_simp
     with_reducible rfl
    rotate_left
    ·simp only [Act.put,sA,sB,sC,i64_w,i32_w]
     rfl
    refine pure_ (i:=33) (N:=some 69) (v:=?_) (a':=?_) (bm 17179869183 54) rfl rfl (any_of HT_.out (by kernel_rfl)) (fun _ _ _ h => h) (Or.inl ⟨by rfl,?_⟩) ?_ ?_
    rotate_left
    ·intro w'
     go_simp
     with_reducible rfl
    rotate_left
    ·simp only [Act.put,sA,sB,sC,i64_w,i32_w]
     rfl
    refine pure_ (i:=34) (N:=some 70) (v:=?_) (a':=?_) (bm 34359738367 54) rfl rfl (any_of HT_.out (by kernel_rfl)) (fun _ _ _ h => h) (Or.inl ⟨by rfl,?_⟩) ?_ ?_
    rotate_left
    ·intro w'
     go_simp
     with_reducible rfl
    rotate_left
    ·simp only [Act.put,sA,sB,sC,i64_w,i32_w]
     rfl
    refine take_ (i:=35) (N:=some 71) (v:=?_) (a':=?_) (bm 68719476735 54) rfl rfl (take_ofW HT_.out HW_.out (by kernel_rfl)) (fun _ _ _ h => h) (Or.inl ⟨by rfl,?_⟩) hHeld ?_ ?_
    rotate_left
    ·rintro w' ⟨s0,s1,s2,s3,s4,s5⟩
     go_simp
     with_reducible rfl
    rotate_left
    ·simp only [Act.put,sA,sB,sC,i64_w,i32_w]
     rfl
    refine one_ (i:=36) (N:=some 72) (bm 137438953471 54) rfl rfl (one_of HT_.out (by kernel_rfl)) (by decide) (fun K hK => ?_)
    refine goes_ Try.func14 (by kernel_rfl) rfl #[.slice AY y.f2.length cY,.string (⟨#[99,117,116]⟩ : ByteArray)] (by rfl) rfl rfl (by simp only [List.map_toArray,List.map_cons,List.map_nil];rfl) ?_
    with_reducible refine (chanceryref1_Has.calls k AY cY y.f2 (⟨#[99,117,116]⟩ : ByteArray) false _ (Kd.C_below HCY.out HB8.out) HMY.out HHC.out).mono ?_
    rintro e w36_ ⟨rfl,hd⟩
    refine ⟨_,rfl,?_⟩
    have HB8:=Aside0.mk (below_step HB8.out hd.below)
    clear hd
    refine hK.out _ _ ⟨(pw_cell_below HB8.out HQ0.out),(pw_cell_below HB8.out HQ1.out),(pw_cell_below HB8.out HQ2.out),(pw_cell_below HB8.out HQ3.out),(pw_cell_below HB8.out HQ4.out),(pw_cell_below HB8.out HQ5.out)⟩ (fun hHeld => ?_)
    clear hK K
    refine norm_ (a':=?_) ?_ ?_
    rotate_left
    ·show Act.put _ (some 72) _ = _
     simp only [Act.put,sA,sB,sC,i64_w,i32_w]
     rfl
    refine pure_ (i:=37) (N:=some 73) (v:=?_) (a':=?_) (bm 274877906943 54) rfl rfl (any_of HT_.out (by kernel_rfl)) (fun _ _ _ h => h) (Or.inl ⟨by rfl,?_⟩) ?_ ?_
    rotate_left
    ·intro w'
     go_simp
     with_reducible rfl
    rotate_left
    ·simp only [Act.put,sA,sB,sC,i64_w,i32_w]
     rfl
    refine pure_ (i:=38) (N:=some 74) (v:=undef) (a':=?_) (bm 549755813887 54) rfl rfl (any_of HT_.out (by kernel_rfl)) (fun _ _ _ h => h) (Or.inr ⟨by rfl,rfl⟩) ?_ ?_
    rotate_left
    ·simp only [Act.put,sA,sB,sC,i64_w,i32_w]
     rfl
    refine pure_ (i:=39) (N:=some 75) (v:=undef) (a':=?_) (bm 1099511627775 54) rfl rfl (any_of HT_.out (by kernel_rfl)) (fun _ _ _ h => h) (Or.inr ⟨by rfl,rfl⟩) ?_ ?_
    rotate_left
    ·simp only [Act.put,sA,sB,sC,i64_w,i32_w]
     rfl
    refine pure_ (i:=40) (N:=some 76) (v:=?_) (a':=?_) (bm 2199023255551 54) rfl rfl (any_of HT_.out (by kernel_rfl)) (fun _ _ _ h => h) (Or.inl ⟨by rfl,?_⟩) ?_ ?_
    rotate_left
    ·intro w'
     go_simp
     with_reducible rfl
    rotate_left
    ·simp only [Act.put,sA,sB,sC,i64_w,i32_w]
     rfl
    refine pure_ (i:=41) (N:=some 77) (v:=?_) (a':=?_) (bm 4398046511103 54) rfl rfl (any_of HT_.out (by kernel_rfl)) (fun _ _ _ h => h) (Or.inl ⟨by rfl,?_⟩) ?_ ?_
    rotate_left
    ·intro w'
     go_simp
     with_reducible rfl
    rotate_left
    ·simp only [Act.put,sA,sB,sC,i64_w,i32_w]
     rfl
    refine pure_ (i:=42) (N:=some 78) (v:=?_) (a':=?_) (bm 8796093022207 54) rfl rfl (any_of HT_.out (by kernel_rfl)) (fun _ _ _ h => h) (Or.inl ⟨by rfl,?_⟩) ?_ ?_
    rotate_left
    ·intro w'
     go_simp
     with_reducible rfl
    rotate_left
    ·simp only [Act.put,sA,sB,sC,i64_w,i32_w]
     rfl
    refine pure_ (i:=43) (N:=some 79) (v:=?_) (a':=?_) (bm 17592186044415 54) rfl rfl (any_of HT_.out (by kernel_rfl)) (fun _ _ _ h => h) (Or.inl ⟨by rfl,?_⟩) ?_ ?_
    rotate_left
    ·intro w'
     go_simp
     with_reducible rfl
    rotate_left
    ·simp only [Act.put,sA,sB,sC,i64_w,i32_w]
     rfl
    refine pure_ (i:=44) (N:=some 80) (v:=?_) (a':=?_) (bm 35184372088831 54) rfl rfl (any_of HT_.out (by kernel_rfl)) (fun _ _ _ h => h) (Or.inl ⟨by rfl,?_⟩) ?_ ?_
    rotate_left
    ·intro w'
     go_simp
     with_reducible rfl
    rotate_left
    ·simp only [Act.put,sA,sB,sC,i64_w,i32_w]
     rfl
    refine pure_ (i:=45) (N:=some 81) (v:=?_) (a':=?_) (bm 70368744177663 54) rfl rfl (any_of HT_.out (by kernel_rfl)) (fun _ _ _ h => h) (Or.inl ⟨by rfl,?_⟩) ?_ ?_
    rotate_left
    ·intro w'
     go_simp
     with_reducible rfl
    rotate_left
    ·simp only [Act.put,sA,sB,sC,i64_w,i32_w]
     rfl
    refine pure_ (i:=46) (N:=some 82) (v:=?_) (a':=?_) (bm 140737488355327 54) rfl rfl (any_of HT_.out (by kernel_rfl)) (fun _ _ _ h => h) (Or.inl ⟨by rfl,?_⟩) ?_ ?_
    rotate_left
    ·intro w'
     go_simp
     with_reducible rfl
    rotate_left
    ·simp only [Act.put,sA,sB,sC,i64_w,i32_w]
     rfl
    refine take_ (i:=47) (N:=some 83) (v:=?_) (a':=?_) (bm 281474976710655 54) rfl rfl (take_ofW HT_.out HW_.out (by kernel_rfl)) (fun _ _ _ h => h) (Or.inl ⟨by rfl,?_⟩) hHeld ?_ ?_
    rotate_left
    ·rintro w' ⟨s0,s1,s2,s3,s4,s5⟩
     go_simp
     with_reducible rfl
    rotate_left
    ·simp only [Act.put,sA,sB,sC,i64_w,i32_w]
     rfl
    refine one_ (i:=48) (N:=some 84) (bm 562949953421311 54) rfl rfl (one_of HT_.out (by kernel_rfl)) (by decide) (fun K hK => ?_)
    refine goes_ Try.func14 (by kernel_rfl) rfl #[.slice AY y.f2.length cY,.string (⟨#[97,100,100]⟩ : ByteArray)] (by rfl) rfl rfl (by simp only [List.map_toArray,List.map_cons,List.map_nil];rfl) ?_
    with_reducible refine (chanceryref1_Has.calls k AY cY y.f2 (⟨#[97,100,100]⟩ : ByteArray) false _ (Kd.C_below HCY.out HB8.out) HMY.out HHA.out).mono ?_
    rintro e w48_ ⟨rfl,hd⟩
    refine ⟨_,rfl,?_⟩
    have HB8:=Aside0.mk (below_step HB8.out hd.below)
    clear hd
    refine hK.out _ _ ⟨(pw_cell_below HB8.out HQ0.out),(pw_cell_below HB8.out HQ1.out),(pw_cell_below HB8.out HQ2.out),(pw_cell_below HB8.out HQ3.out),(pw_cell_below HB8.out HQ4.out),(pw_cell_below HB8.out HQ5.out)⟩ (fun hHeld => ?_)
    clear hK K
    refine norm_ (a':=?_) ?_ ?_
    rotate_left
    ·show Act.put _ (some 84) _ = _
     simp only [Act.put,sA,sB,sC,i64_w,i32_w]
     rfl
    refine pure_ (i:=49) (N:=some 85) (v:=?_) (a':=?_) (bm 1125899906842623 54) rfl rfl (any_of HT_.out (by kernel_rfl)) (fun _ _ _ h => h) (Or.inl ⟨by rfl,?_⟩) ?_ ?_
    rotate_left
    ·intro w'
     go_simp
     with_reducible rfl
    rotate_left
    ·simp only [Act.put,sA,sB,sC,i64_w,i32_w]
     rfl
    refine pure_ (i:=50) (N:=some 86) (v:=undef) (a':=?_) (bm 2251799813685247 54) rfl rfl (any_of HT_.out (by kernel_rfl)) (fun _ _ _ h => h) (Or.inr ⟨by rfl,rfl⟩) ?_ ?_
    rotate_left
    ·simp only [Act.put,sA,sB,sC,i64_w,i32_w]
     rfl
    refine pure_ (i:=51) (N:=some 87) (v:=undef) (a':=?_) (bm 4503599627370495 54) rfl rfl (any_of HT_.out (by kernel_rfl)) (fun _ _ _ h => h) (Or.inr ⟨by rfl,rfl⟩) ?_ ?_
    rotate_left
    ·simp only [Act.put,sA,sB,sC,i64_w,i32_w]
     rfl
    refine pure_ (i:=52) (N:=some 88) (v:=?_) (a':=?_) (bm 9007199254740991 54) rfl rfl (any_of HT_.out (by kernel_rfl)) (fun _ _ _ h => h) (Or.inl ⟨by rfl,?_⟩) ?_ ?_
    rotate_left
    ·intro w'
     go_simp
     with_reducible rfl
    rotate_left
    ·simp only [Act.put,sA,sB,sC,i64_w,i32_w]
     rfl
    refine pure_ (i:=53) (N:=some 89) (v:=?_) (a':=?_) (bm 18014398509481983 54) rfl rfl (any_of HT_.out (by kernel_rfl)) (fun _ _ _ h => h) (Or.inl ⟨by rfl,?_⟩) ?_ ?_
    rotate_left
    ·intro w'
     go_simp
     with_reducible rfl
    rotate_left
    ·simp only [Act.put,sA,sB,sC,i64_w,i32_w]
     rfl
    refine done_ (done_of HT_.out (by kernel_rfl)) ?_
    have HNY:=Aside0.mk (HNX.out _ HB8.out)
    have wk:=HWK.out
    clear hHeld
    go_wp2
    go_roundg gl
    case measure => omega
    case rel => exact ⟨i + 1,by simp [wk],⟨by have:=HI.out;omega⟩,⟨HNY.out.1⟩,⟨HNY.out.2.1⟩,⟨HNY.out.2.2⟩⟩
def ShowsT (f : List S26) (d : List S95) (m : Int) : Prop:=∃ (k : Nat) (g : List S26) (l : List Int) (c : List S44),chanceryref1_After.f f d = some g ∧ ShowsG k f m g l c
open Classical in
noncomputable def chancerykeep1_shows.f (l0 : List S26) (l1 : List S95) (m : Int) : Option Bool:=if ShowsT l0 l1 m then some true else none
theorem chancerykeep1_shows.calls (A0 : Option Addr) (c0 : Nat) (l0 : List S26) (A1 : Option Addr) (c1 : Nat) (l1 : List S95) (m : Int) (r : Bool) (w : World) (hr0 : Kd.C k26 w A0 l0.length l0) (hc0 : l0.length ≤ c0) (hr1 : Kd.C k95 w A1 l1.length l1) (hc1 : l1.length ≤ c1) (h : chancerykeep1_shows.f l0 l1 m = some r) :
 Calls Try.prog 18 #[.slice A0 l0.length c0,.slice A1 l1.length c1,.int .i64 m] w fun e w' => e = .returned (.bool r) ∧ Below w.heap.size w w':=by
 unfold chancerykeep1_shows.f at h
 split at h
 ·rename_i ht
  obtain rfl:=Option.some.inj h
  obtain ⟨k,g,l,c,ha,hg⟩:=ht
  exact shows_calls k A0 c0 l0 A1 c1 l1 m g l c w hr0 hc0 hr1 hc1 ha hg
 ·cases h
end Go.Proofs.Ytlcodfjlbhjkbaa.PDelta
end
